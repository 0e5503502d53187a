/- What FlushNumber and RootNumber give on both sides. -/
import Derived.Test.YtkemghecglbleaaGreatDoorYa
import Derived.Lib.Hide
namespace Go.Proofs.YtkemghecglbleaaGreatDoor
set_option maxRecDepth 100000
open Go.RowKit

/-- the square root of the library: that of IEEE 754 -/
theorem run_callSqrt (x : Nat) (w : World) : ∃ r nd, (callFunc 53 #[.float .f64 x]).run Tryz.prog w = .ok (.value (.float .f64 r)) (w.drewN nd) ∧ FE .f64 r (csqrt (cn .f64 x)) := by
  obtain ⟨r, nd, h, hc⟩ := run_sqrt Tryz.prog w x
  refine ⟨r, nd, ?_, hc⟩
  have e : (callFunc 53 #[.float .f64 x]).run Tryz.prog w = ((Extern.MathSqrt.sqrt #[.float .f64 x]).run Tryz.prog w).andThen fun v w' => .ok (.value v) w' := by
    exact run_callFunc_extern Tryz.func53 (by kernel_rfl) (by kernel_rfl) (by kernel_rfl) (by kernel_rfl) _ w
  rw [e, h]; rfl

set_option maxHeartbeats 400000 in
theorem math_Sqrt (x : Nat) (w : World) :
    Calls Tryz.prog 32 #[.float .f64 x] w (RetF .f64 (csqrt (cn .f64 x)) w) := by
  obtain ⟨r, nd, h, hc⟩ := run_callSqrt x w
  go_enter Tryz.func32, Tryz.ntmps32
  go_wp2
  go_ret
  exact RetF.mk hc

/-- the square root of a 32-bit number is narrowed to a finite one, or is infinite -/
theorem fits_sqrt (x : Nat) (hx : x < 4294967296) : Fits .f64 .f32 (csqrt (cconv .f32 .f64 (cn .f32 x))) := by
  rcases cn_cases .f32 x with c | c
  · rw [c]; trivial
  · rcases cn_or32 c with a | a
    · have hfin : ∃ m e, FloatKind.f32.decode x = .number (sgn .f32 x) m e := by
        obtain ⟨m, e, h, _⟩ := read_num .f32 x (by rw [f32_sign]; omega) (by rw [f32_sign, f32_inf]; exact a)
        exact ⟨m, e, h⟩
      obtain ⟨m, e, hd⟩ := hfin
      have h1 := Lg_up (c := cn .f32 x) (fun y hy => by
        rw [c] at hy; cases hy
        rw [hd]; exact ⟨rfl, rfl⟩)
      exact fits_down (Lg.csqrt h1 (by decide) (by decide)) (by decide) (by decide)
    · obtain ⟨X, eX, lX, cX, sX, _, i⟩ := up_spec x hx c
      rw [c, eX]
      have hd := read_inf .f64 X (by rw [f64_sign]; omega) (by rw [f64_sign, f64_inf]; exact i a)
      show Fits .f64 .f32 (FloatKind.f64.format.sqrt X)
      unfold Ieee.Format.sqrt
      have hr : FloatKind.f64.format.read X = .infinity (sgn .f64 X) := hd
      rw [hr]
      cases sgn .f64 X
      · show Fits .f64 .f32 (some (FloatKind.f64.format.write (.infinity false)))
        intro g m e hm
        have : FloatKind.f64.decode (FloatKind.f64.format.write (.infinity false)) = .infinity false := by decide
        rw [this] at hm; cases hm
      · trivial

set_option maxHeartbeats 400000 in
theorem spec_l01Narrow (x : Nat) (hf : Fits .f64 .f32 (cn .f64 x)) (w : World) :
    Calls Tryz.prog 54 #[.float .f64 x] w (RetF .f32 (cconv .f64 .f32 (cn .f64 x)) w) := by
  have HF := Lib.hid hf
  clear hf
  go_enter Tryz.func54, Tryz.ntmps54
  go_wp2_with ((with_reducible refine up_down _ _ ?hf ?_); rotate_left; intro r nd hr)
  case hf => exact HF.out
  go_ret
  exact RetF.mk hr

/-- the root of a number, narrowed -/
def rootC (c : Option Nat) : Option Nat := cconv .f64 .f32 (csqrt (cconv .f32 .f64 c))

set_option maxHeartbeats 400000 in
theorem spec_l01Sqrt (x : Nat) (hx : x < 4294967296) (w : World) :
    Calls Tryz.prog 33 #[.float .f32 x] w (RetF .f32 (rootC (cn .f32 x)) w) := by
  have HF := Lib.hid (fits_sqrt x hx)
  go_enter Tryz.func33, Tryz.ntmps33
  go_wp2_with (first | ((with_reducible refine up_up _ _ ?_); intro r nd hr) | (go_at_call 32; refine (math_Sqrt _ _).mono ?_; rintro _ _ ⟨r, nd, rfl, hr, rfl⟩) | (go_at_call 54; refine (spec_l01Narrow _ ?hf _).mono ?_; rotate_left; rintro _ _ ⟨r, nd, rfl, hr, rfl⟩))
  case hf => go_tidy; simp_all [FE, Hid]
  go_ret
  refine RetF.mk (hr.cast ?_)
  go_tidy
  simp_all [FE, rootC]

set_option maxHeartbeats 400000 in
theorem spec_RootNumber (x : Nat) (hx : x < 4294967296) (w : World) :
    Calls Tryz.prog 11 #[.float .f32 x] w (RetF .f32 (rootC (cn .f32 x)) w) := by
  go_enter Tryz.func11, Tryz.ntmps11
  go_wp2_with (go_at_call 33; refine (spec_l01Sqrt _ hx _).mono ?_; rintro _ _ ⟨r, nd, rfl, hr, rfl⟩)
  go_ret
  exact RetF.mk hr

/-! flushed numbers -/
def flushC : Option Nat → Option Nat
  | some x => if x % 2147483648 < 8388608 then some (if 2147483648 ≤ x then 2147483648 else 0) else some x
  | none => none

theorem i64_top (x : Nat) (hx : x < 4294967296) : bits .and .i64 (x : Int) 2147483648 = ((if 2147483648 ≤ x then 2147483648 else 0 : Nat) : Int) := by
  have h := bits_and_i64_nat x 2147483648 (by omega) (by omega)
  have h2 := nat_bit 31 x
  simp only [Nat.reducePow] at h2
  rw [h2] at h
  have e : bits .and .i64 (x : Int) 2147483648 = ((x / 2147483648 % 2 * 2147483648 : Nat) : Int) := h
  rw [e]
  congr 1
  split <;> omega

theorem u64_top (x : Nat) (hx : x < 18446744073709551616) : bits .and .u64 (x : Int) 9223372036854775808 = ((if 9223372036854775808 ≤ x then 9223372036854775808 else 0 : Nat) : Int) := by
  have h := u64_and_nat x 9223372036854775808 hx (by omega)
  have h2 := nat_bit 63 x
  simp only [Nat.reducePow] at h2
  rw [h2] at h
  have e : bits .and .u64 (x : Int) 9223372036854775808 = ((x / 9223372036854775808 % 2 * 9223372036854775808 : Nat) : Int) := h
  rw [e]
  congr 1
  split <;> omega

/-- the sign of a number, as a zero -/
def zeroOf (s : Nat) : Nat := if 9223372036854775808 ≤ s then 9223372036854775808 else 0

theorem FE_num {x X r : Nat} (hr : FE .f64 r (cconv .f32 .f64 (cn .f32 x))) (c : cn .f32 x = some x) (eX : cconv .f32 .f64 (some x) = some X) : r = X := by
  have := hr.out
  rw [c, eX] at this
  exact (cn_some this).symm

theorem down_zero (s : Nat) : cconv .f64 .f32 (cn .f64 (zeroOf s)) = some (if 9223372036854775808 ≤ s then 2147483648 else 0) ∧ Fits .f64 .f32 (cn .f64 (zeroOf s)) := by
  have a : cconv .f64 .f32 (cn .f64 9223372036854775808) = some 2147483648 := by decide
  have b : cconv .f64 .f32 (cn .f64 0) = some 0 := by decide
  have c : Fits .f64 .f32 (cn .f64 9223372036854775808) := by
    have e : cn .f64 9223372036854775808 = some 9223372036854775808 := by decide
    rw [e]
    intro g m e h
    have hd : FloatKind.f64.decode 9223372036854775808 = .number true 0 (-1074) := by decide
    rw [hd] at h; cases h; decide
  have d : Fits .f64 .f32 (cn .f64 0) := by
    rw [cn_zero64]
    intro g m e h
    have hd : FloatKind.f64.decode 0 = .number false 0 (-1074) := by decide
    rw [hd] at h; cases h; decide
  unfold zeroOf
  split
  · exact ⟨a, c⟩
  · exact ⟨b, d⟩

end Go.Proofs.YtkemghecglbleaaGreatDoor
