/- Tenths of products of eighths, reckoned by the kernel. -/
import Derived.Test.YtlkhkpaggkpieaaXq
namespace Go.Proofs.Ytlkhkpaggkpieaa
set_option maxRecDepth 100000
theorem pairsT95 : ∀ i : Fin 10, ∀ j : Fin 200, pairT (i.val + 95) j.val = true := by decide +kernel
theorem pairsT105 : ∀ i : Fin 11, ∀ j : Fin 200, pairT (i.val + 105) j.val = true := by decide +kernel
theorem pairsT116 : ∀ i : Fin 13, ∀ j : Fin 200, pairT (i.val + 116) j.val = true := by decide +kernel
theorem pairsT129 : ∀ i : Fin 16, ∀ j : Fin 200, pairT (i.val + 129) j.val = true := by decide +kernel
theorem pairsT145 : ∀ i : Fin 24, ∀ j : Fin 200, pairT (i.val + 145) j.val = true := by decide +kernel
theorem pairsT169 : ∀ i : Fin 31, ∀ j : Fin 200, pairT (i.val + 169) j.val = true := by decide +kernel
end Go.Proofs.Ytlkhkpaggkpieaa
