/- Products of phasors: all pairs. -/
import Derived.Test.YtlkhkpaggkpieaaXs0
import Derived.Test.YtlkhkpaggkpieaaXs1
import Derived.Test.YtlkhkpaggkpieaaXs2
import Derived.Test.YtlkhkpaggkpieaaXs3
namespace Go.Proofs.Ytlkhkpaggkpieaa
theorem prodsB (i j : Nat) (hi : i < 64) (hj : j < 64) : mulB i j = true := by
  by_cases h4 : i < 4
  · have := prodsB0 ⟨i - 0, by omega⟩ ⟨j, hj⟩
    dsimp only at this
    rwa [show i - 0 + 0 = i by omega] at this
  by_cases h8 : i < 8
  · have := prodsB4 ⟨i - 4, by omega⟩ ⟨j, hj⟩
    dsimp only at this
    rwa [show i - 4 + 4 = i by omega] at this
  by_cases h12 : i < 12
  · have := prodsB8 ⟨i - 8, by omega⟩ ⟨j, hj⟩
    dsimp only at this
    rwa [show i - 8 + 8 = i by omega] at this
  by_cases h16 : i < 16
  · have := prodsB12 ⟨i - 12, by omega⟩ ⟨j, hj⟩
    dsimp only at this
    rwa [show i - 12 + 12 = i by omega] at this
  by_cases h20 : i < 20
  · have := prodsB16 ⟨i - 16, by omega⟩ ⟨j, hj⟩
    dsimp only at this
    rwa [show i - 16 + 16 = i by omega] at this
  by_cases h24 : i < 24
  · have := prodsB20 ⟨i - 20, by omega⟩ ⟨j, hj⟩
    dsimp only at this
    rwa [show i - 20 + 20 = i by omega] at this
  by_cases h28 : i < 28
  · have := prodsB24 ⟨i - 24, by omega⟩ ⟨j, hj⟩
    dsimp only at this
    rwa [show i - 24 + 24 = i by omega] at this
  by_cases h32 : i < 32
  · have := prodsB28 ⟨i - 28, by omega⟩ ⟨j, hj⟩
    dsimp only at this
    rwa [show i - 28 + 28 = i by omega] at this
  by_cases h36 : i < 36
  · have := prodsB32 ⟨i - 32, by omega⟩ ⟨j, hj⟩
    dsimp only at this
    rwa [show i - 32 + 32 = i by omega] at this
  by_cases h40 : i < 40
  · have := prodsB36 ⟨i - 36, by omega⟩ ⟨j, hj⟩
    dsimp only at this
    rwa [show i - 36 + 36 = i by omega] at this
  by_cases h44 : i < 44
  · have := prodsB40 ⟨i - 40, by omega⟩ ⟨j, hj⟩
    dsimp only at this
    rwa [show i - 40 + 40 = i by omega] at this
  by_cases h48 : i < 48
  · have := prodsB44 ⟨i - 44, by omega⟩ ⟨j, hj⟩
    dsimp only at this
    rwa [show i - 44 + 44 = i by omega] at this
  by_cases h52 : i < 52
  · have := prodsB48 ⟨i - 48, by omega⟩ ⟨j, hj⟩
    dsimp only at this
    rwa [show i - 48 + 48 = i by omega] at this
  by_cases h56 : i < 56
  · have := prodsB52 ⟨i - 52, by omega⟩ ⟨j, hj⟩
    dsimp only at this
    rwa [show i - 52 + 52 = i by omega] at this
  by_cases h60 : i < 60
  · have := prodsB56 ⟨i - 56, by omega⟩ ⟨j, hj⟩
    dsimp only at this
    rwa [show i - 56 + 56 = i by omega] at this
  by_cases h64 : i < 64
  · have := prodsB60 ⟨i - 60, by omega⟩ ⟨j, hj⟩
    dsimp only at this
    rwa [show i - 60 + 60 = i by omega] at this
  omega
end Go.Proofs.Ytlkhkpaggkpieaa
