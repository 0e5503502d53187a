/- Tenths of products of eighths, reckoned by the kernel. -/
import Derived.Test.YtlkhkpaggkpieaaXq
namespace Go.Proofs.Ytlkhkpaggkpieaa
set_option maxRecDepth 100000
theorem pairsT56 : ∀ i : Fin 7, ∀ j : Fin 200, pairT (i.val + 56) j.val = true := by decide +kernel
theorem pairsT63 : ∀ i : Fin 7, ∀ j : Fin 200, pairT (i.val + 63) j.val = true := by decide +kernel
theorem pairsT70 : ∀ i : Fin 8, ∀ j : Fin 200, pairT (i.val + 70) j.val = true := by decide +kernel
theorem pairsT78 : ∀ i : Fin 8, ∀ j : Fin 200, pairT (i.val + 78) j.val = true := by decide +kernel
theorem pairsT86 : ∀ i : Fin 9, ∀ j : Fin 200, pairT (i.val + 86) j.val = true := by decide +kernel
end Go.Proofs.Ytlkhkpaggkpieaa
