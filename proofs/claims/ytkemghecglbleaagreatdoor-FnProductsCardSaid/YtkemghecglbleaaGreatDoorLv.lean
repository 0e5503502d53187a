/- What LogNumber gives on both sides. -/
import Derived.Test.YtkemghecglbleaaGreatDoorLw
import Derived.Test.YtkemghecglbleaaGreatDoorLb
import Derived.Test.YtkemghecglbleaaGreatDoorYa
namespace Go.Proofs.YtkemghecglbleaaGreatDoor
set_option maxRecDepth 100000
open Go.RowKit

/-- how a number stands to zero -/
theorem ord0 {x : Nat} (hx : x < 4294967296) (c : cn .f32 x = some x) : FloatKind.f32.format.order x 0 = some (if x % 2147483648 = 0 then .eq else if 2147483648 ≤ x then .lt else .gt) := by
  rw [order_sr .f32 x 0 (by rw [f32_sign]; omega) (by rw [f32_sign]; omega) c cn_zero32]
  have e0 : sr .f32 0 = 0 := by unfold sr; simp
  rw [e0]
  unfold sr
  rw [f32_sign]
  congr 1
  by_cases h : x % 2147483648 = 0
  · rw [if_pos h, h]; split <;> rfl
  · rw [if_neg h]
    by_cases h2 : 2147483648 ≤ x
    · rw [if_pos h2, if_pos h2, Int.compare_eq_lt]; omega
    · rw [if_neg h2, if_neg h2, Int.compare_eq_gt]; omega

theorem upord0 {x X : Nat} (hx : x < 4294967296) (c : cn .f32 x = some x) (e : cconv .f32 .f64 (some x) = some X) : FloatKind.f64.format.order X 0 = some (if x % 2147483648 = 0 then .eq else if 2147483648 ≤ x then .lt else .gt) := by
  rw [up_order hx (by omega) c cn_zero32 e (show cconv .f32 .f64 (some 0) = some 0 by decide), ord0 hx c]

theorem nan_cn : cn .f64 9221120237041090561 = none := by decide
theorem ninf_cn : cn .f64 18442240474082181120 = some 18442240474082181120 := by decide
theorem FE_nan {c : Option Nat} (h : c = none) : FE .f64 9221120237041090561 c := ⟨by rw [h]; exact nan_cn, by rw [f64_sign]; omega⟩
theorem FE_ninf : FE .f64 18442240474082181120 (some 18442240474082181120) := ⟨ninf_cn, by rw [f64_sign]; omega⟩

/-- the logarithm of a 32-bit number, in 64 bits -/
def logWC : Option Nat → Option Nat
  | none => none
  | some x => if x % 2147483648 = 0 then some 18442240474082181120 else if 2147483648 ≤ x then none else if x = 2139095040 then some 9218868437227405312 else logC ((cconv .f32 .f64 (some x)).getD 0)

theorem retV_F {k : FloatKind} {v : Nat} {c : Option Nat} {w : World} (h : FE k v c) (e : Ending) (w' : World) (hr : RetV (.float k v) w e w') : RetF k c w e w' := by
  obtain ⟨n, rfl, rfl⟩ := hr
  exact ⟨v, n, rfl, h, rfl⟩

theorem fits_logWC (x : Nat) (hx : x < 4294967296) : Fits .f64 .f32 (logWC (cn .f32 x)) := by
  rcases cn_cases .f32 x with c | c
  · rw [c]; trivial
  · rw [c]
    simp only [logWC]
    split
    · intro g m e h
      have : FloatKind.f64.decode 18442240474082181120 = .infinity true := by decide
      rw [this] at h; cases h
    · split
      · trivial
      · split
        · intro g m e h
          have : FloatKind.f64.decode 9218868437227405312 = .infinity false := by decide
          rw [this] at h; cases h
        · have z := cn_or32 c
          obtain ⟨X, eX, r1, r2, _⟩ := up_range (x := x) (by omega) (by omega)
          rw [eX]
          exact (logC_Lb X r1 r2).fits (by omega)

def logNC (c : Option Nat) : Option Nat := cconv .f64 .f32 (logWC c)

theorem fits_ninf : Fits .f64 .f32 (cn .f64 18442240474082181120) := by
  rw [ninf_cn]
  intro g m e h
  have : FloatKind.f64.decode 18442240474082181120 = .infinity true := by decide
  rw [this] at h; cases h
theorem fits_nan : Fits .f64 .f32 (cn .f64 9221120237041090561) := by rw [nan_cn]; trivial

theorem isFin_none : isFin none = false := rfl

end Go.Proofs.YtkemghecglbleaaGreatDoor
