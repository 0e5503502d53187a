/- Tenths of products of eighths, reckoned by the kernel. -/
import Derived.Test.YtlkhkpaggkpieaaXq
namespace Go.Proofs.Ytlkhkpaggkpieaa
set_option maxRecDepth 100000
theorem pairsT0 : ∀ i : Fin 5, ∀ j : Fin 200, pairT (i.val + 0) j.val = true := by decide +kernel
theorem pairsT5 : ∀ i : Fin 5, ∀ j : Fin 200, pairT (i.val + 5) j.val = true := by decide +kernel
theorem pairsT10 : ∀ i : Fin 5, ∀ j : Fin 200, pairT (i.val + 10) j.val = true := by decide +kernel
theorem pairsT15 : ∀ i : Fin 5, ∀ j : Fin 200, pairT (i.val + 15) j.val = true := by decide +kernel
theorem pairsT20 : ∀ i : Fin 5, ∀ j : Fin 200, pairT (i.val + 20) j.val = true := by decide +kernel
end Go.Proofs.Ytlkhkpaggkpieaa
