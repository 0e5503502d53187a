/- Products of exponentials at eighths, reckoned by the kernel. -/
import Derived.Test.YtlkhkpaggkpieaaXp0
namespace Go.Proofs.Ytlkhkpaggkpieaa
set_option maxRecDepth 100000
theorem pairs1 : ∀ i : Fin 22, ∀ j : Fin 65, pairB (i.val + 22) j.val = true := by decide +kernel
end Go.Proofs.Ytlkhkpaggkpieaa
