/- Tenths of products of eighths, reckoned by the kernel. -/
import Derived.Test.YtlkhkpaggkpieaaXq
namespace Go.Proofs.Ytlkhkpaggkpieaa
set_option maxRecDepth 100000
theorem pairsT25 : ∀ i : Fin 6, ∀ j : Fin 200, pairT (i.val + 25) j.val = true := by decide +kernel
theorem pairsT31 : ∀ i : Fin 6, ∀ j : Fin 200, pairT (i.val + 31) j.val = true := by decide +kernel
theorem pairsT37 : ∀ i : Fin 6, ∀ j : Fin 200, pairT (i.val + 37) j.val = true := by decide +kernel
theorem pairsT43 : ∀ i : Fin 6, ∀ j : Fin 200, pairT (i.val + 43) j.val = true := by decide +kernel
theorem pairsT49 : ∀ i : Fin 7, ∀ j : Fin 200, pairT (i.val + 49) j.val = true := by decide +kernel
end Go.Proofs.Ytlkhkpaggkpieaa
