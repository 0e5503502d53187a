/- Tenths of products of eighths: all pairs. -/
import Derived.Test.YtlkhkpaggkpieaaXt0
import Derived.Test.YtlkhkpaggkpieaaXt1
import Derived.Test.YtlkhkpaggkpieaaXt2
import Derived.Test.YtlkhkpaggkpieaaXt3
namespace Go.Proofs.Ytlkhkpaggkpieaa
theorem pairsT (i j : Nat) (hi : i < 200) (hj : j < 200) : pairT i j = true := by
  by_cases h5 : i < 5
  · have := pairsT0 ⟨i - 0, by omega⟩ ⟨j, hj⟩
    dsimp only at this
    rwa [show i - 0 + 0 = i by omega] at this
  by_cases h10 : i < 10
  · have := pairsT5 ⟨i - 5, by omega⟩ ⟨j, hj⟩
    dsimp only at this
    rwa [show i - 5 + 5 = i by omega] at this
  by_cases h15 : i < 15
  · have := pairsT10 ⟨i - 10, by omega⟩ ⟨j, hj⟩
    dsimp only at this
    rwa [show i - 10 + 10 = i by omega] at this
  by_cases h20 : i < 20
  · have := pairsT15 ⟨i - 15, by omega⟩ ⟨j, hj⟩
    dsimp only at this
    rwa [show i - 15 + 15 = i by omega] at this
  by_cases h25 : i < 25
  · have := pairsT20 ⟨i - 20, by omega⟩ ⟨j, hj⟩
    dsimp only at this
    rwa [show i - 20 + 20 = i by omega] at this
  by_cases h31 : i < 31
  · have := pairsT25 ⟨i - 25, by omega⟩ ⟨j, hj⟩
    dsimp only at this
    rwa [show i - 25 + 25 = i by omega] at this
  by_cases h37 : i < 37
  · have := pairsT31 ⟨i - 31, by omega⟩ ⟨j, hj⟩
    dsimp only at this
    rwa [show i - 31 + 31 = i by omega] at this
  by_cases h43 : i < 43
  · have := pairsT37 ⟨i - 37, by omega⟩ ⟨j, hj⟩
    dsimp only at this
    rwa [show i - 37 + 37 = i by omega] at this
  by_cases h49 : i < 49
  · have := pairsT43 ⟨i - 43, by omega⟩ ⟨j, hj⟩
    dsimp only at this
    rwa [show i - 43 + 43 = i by omega] at this
  by_cases h56 : i < 56
  · have := pairsT49 ⟨i - 49, by omega⟩ ⟨j, hj⟩
    dsimp only at this
    rwa [show i - 49 + 49 = i by omega] at this
  by_cases h63 : i < 63
  · have := pairsT56 ⟨i - 56, by omega⟩ ⟨j, hj⟩
    dsimp only at this
    rwa [show i - 56 + 56 = i by omega] at this
  by_cases h70 : i < 70
  · have := pairsT63 ⟨i - 63, by omega⟩ ⟨j, hj⟩
    dsimp only at this
    rwa [show i - 63 + 63 = i by omega] at this
  by_cases h78 : i < 78
  · have := pairsT70 ⟨i - 70, by omega⟩ ⟨j, hj⟩
    dsimp only at this
    rwa [show i - 70 + 70 = i by omega] at this
  by_cases h86 : i < 86
  · have := pairsT78 ⟨i - 78, by omega⟩ ⟨j, hj⟩
    dsimp only at this
    rwa [show i - 78 + 78 = i by omega] at this
  by_cases h95 : i < 95
  · have := pairsT86 ⟨i - 86, by omega⟩ ⟨j, hj⟩
    dsimp only at this
    rwa [show i - 86 + 86 = i by omega] at this
  by_cases h105 : i < 105
  · have := pairsT95 ⟨i - 95, by omega⟩ ⟨j, hj⟩
    dsimp only at this
    rwa [show i - 95 + 95 = i by omega] at this
  by_cases h116 : i < 116
  · have := pairsT105 ⟨i - 105, by omega⟩ ⟨j, hj⟩
    dsimp only at this
    rwa [show i - 105 + 105 = i by omega] at this
  by_cases h129 : i < 129
  · have := pairsT116 ⟨i - 116, by omega⟩ ⟨j, hj⟩
    dsimp only at this
    rwa [show i - 116 + 116 = i by omega] at this
  by_cases h145 : i < 145
  · have := pairsT129 ⟨i - 129, by omega⟩ ⟨j, hj⟩
    dsimp only at this
    rwa [show i - 129 + 129 = i by omega] at this
  by_cases h169 : i < 169
  · have := pairsT145 ⟨i - 145, by omega⟩ ⟨j, hj⟩
    dsimp only at this
    rwa [show i - 145 + 145 = i by omega] at this
  by_cases h200 : i < 200
  · have := pairsT169 ⟨i - 169, by omega⟩ ⟨j, hj⟩
    dsimp only at this
    rwa [show i - 169 + 169 = i by omega] at this
  omega
end Go.Proofs.Ytlkhkpaggkpieaa
