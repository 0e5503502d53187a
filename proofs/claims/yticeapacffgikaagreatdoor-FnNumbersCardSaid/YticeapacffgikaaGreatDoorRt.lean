/- What FlushNumber and RootNumber give on both sides. -/
import Derived.Test.YticeapacffgikaaGreatDoorWc
import Derived.Test.YticeapacffgikaaGreatDoorBd
import Derived.Lib.Hide
namespace Go.Proofs.YticeapacffgikaaGreatDoor
set_option maxRecDepth 100000
open Go.RowKit

/-- the square root of the library: that of IEEE 754 -/
theorem run_callSqrt (x : Nat) (w : World) : ∃ r nd, (callFunc 56 #[.float .f64 x]).run Tryz.prog w = .ok (.value (.float .f64 r)) (w.drewN nd) ∧ FE .f64 r (csqrt (cn .f64 x)) := by
  obtain ⟨r, nd, h, hc⟩ := run_sqrt Tryz.prog w x
  refine ⟨r, nd, ?_, hc⟩
  have e : (callFunc 56 #[.float .f64 x]).run Tryz.prog w = ((Extern.MathSqrt.sqrt #[.float .f64 x]).run Tryz.prog w).andThen fun v w' => .ok (.value v) w' := by
    exact run_callFunc_extern Tryz.func56 (by kernel_rfl) (by kernel_rfl) (by kernel_rfl) (by kernel_rfl) _ w
  rw [e, h]; rfl

set_option maxHeartbeats 400000 in
theorem math_Sqrt (x : Nat) (w : World) :
    Calls Tryz.prog 39 #[.float .f64 x] w (RetF .f64 (csqrt (cn .f64 x)) w) := by
  obtain ⟨r, nd, h, hc⟩ := run_callSqrt x w
  go_enter Tryz.func39, Tryz.ntmps39
  go_wp2
  go_ret
  exact RetF.mk hc

/-- the square root of a 32-bit number is narrowed to a finite one, or is infinite -/
theorem fits_sqrt (x : Nat) (hx : x < 4294967296) : Fits .f64 .f32 (csqrt (cconv .f32 .f64 (cn .f32 x))) := by
  rcases cn_cases .f32 x with c | c
  · rw [c]; trivial
  · rcases cn_or32 c with a | a
    · have hfin : ∃ m e, FloatKind.f32.decode x = .number (sgn .f32 x) m e := by
        obtain ⟨m, e, h, _⟩ := read_num .f32 x (by rw [f32_sign]; omega) (by rw [f32_sign, f32_inf]; exact a)
        exact ⟨m, e, h⟩
      obtain ⟨m, e, hd⟩ := hfin
      have h1 := Lg_up (c := cn .f32 x) (fun y hy => by
        rw [c] at hy; cases hy
        rw [hd]; exact ⟨rfl, rfl⟩)
      exact fits_down (Lg.csqrt h1 (by decide) (by decide)) (by decide) (by decide)
    · obtain ⟨X, eX, lX, cX, sX, _, i⟩ := up_spec x hx c
      rw [c, eX]
      have hd := read_inf .f64 X (by rw [f64_sign]; omega) (by rw [f64_sign, f64_inf]; exact i a)
      show Fits .f64 .f32 (FloatKind.f64.format.sqrt X)
      unfold Ieee.Format.sqrt
      have hr : FloatKind.f64.format.read X = .infinity (sgn .f64 X) := hd
      rw [hr]
      cases sgn .f64 X
      · show Fits .f64 .f32 (some (FloatKind.f64.format.write (.infinity false)))
        intro g m e hm
        have : FloatKind.f64.decode (FloatKind.f64.format.write (.infinity false)) = .infinity false := by decide
        rw [this] at hm; cases hm
      · trivial

/-- the root of a number, narrowed -/
def rootC (c : Option Nat) : Option Nat := cconv .f64 .f32 (csqrt (cconv .f32 .f64 c))

/-! flushed numbers -/
def flushC : Option Nat → Option Nat
  | some x => if x % 2147483648 < 8388608 then some (if 2147483648 ≤ x then 2147483648 else 0) else some x
  | none => none

theorem i64_top (x : Nat) (hx : x < 4294967296) : bits .and .i64 (x : Int) 2147483648 = ((if 2147483648 ≤ x then 2147483648 else 0 : Nat) : Int) := by
  have h := bits_and_i64_nat x 2147483648 (by omega) (by omega)
  have h2 := nat_bit 31 x
  simp only [Nat.reducePow] at h2
  rw [h2] at h
  have e : bits .and .i64 (x : Int) 2147483648 = ((x / 2147483648 % 2 * 2147483648 : Nat) : Int) := h
  rw [e]
  congr 1
  split <;> omega

theorem u64_top (x : Nat) (hx : x < 18446744073709551616) : bits .and .u64 (x : Int) 9223372036854775808 = ((if 9223372036854775808 ≤ x then 9223372036854775808 else 0 : Nat) : Int) := by
  have h := u64_and_nat x 9223372036854775808 hx (by omega)
  have h2 := nat_bit 63 x
  simp only [Nat.reducePow] at h2
  rw [h2] at h
  have e : bits .and .u64 (x : Int) 9223372036854775808 = ((x / 9223372036854775808 % 2 * 9223372036854775808 : Nat) : Int) := h
  rw [e]
  congr 1
  split <;> omega

/-- the sign of a number, as a zero -/
def zeroOf (s : Nat) : Nat := if 9223372036854775808 ≤ s then 9223372036854775808 else 0

set_option maxHeartbeats 400000 in
theorem math_Copysign0 (s : Nat) (hs : s < 18446744073709551616) (w : World) :
    Calls Tryz.prog 28 #[.float .f64 0, .float .f64 s] w (RetV (.float .f64 (zeroOf s)) w) := by
  have e1 := ext_f64bits
  have e2 := ext_f64from
  have e3 : bits .and .u64 (s : Int) 9223372036854775808 = ((zeroOf s : Nat) : Int) := u64_top s hs
  have e4 : bits .andNot .u64 0 9223372036854775808 = 0 := by decide
  have hz : zeroOf s = 0 ∨ zeroOf s = 9223372036854775808 := by unfold zeroOf; split <;> simp
  have e5 : bits .or .u64 0 ((zeroOf s : Nat) : Int) = ((zeroOf s : Nat) : Int) := by
    rcases hz with h | h <;> rw [h] <;> decide
  clear hz
  obtain ⟨z, hz⟩ : ∃ z, z = zeroOf s := ⟨_, rfl⟩
  rw [← hz] at e3 e5 ⊢
  clear hz
  go_enter Tryz.func28, Tryz.ntmps28
  go_wp2
  go_ret
  exact RetV.mk0 rfl

theorem FE_num {x X r : Nat} (hr : FE .f64 r (cconv .f32 .f64 (cn .f32 x))) (c : cn .f32 x = some x) (eX : cconv .f32 .f64 (some x) = some X) : r = X := by
  have := hr.out
  rw [c, eX] at this
  exact (cn_some this).symm

theorem down_zero (s : Nat) : cconv .f64 .f32 (cn .f64 (zeroOf s)) = some (if 9223372036854775808 ≤ s then 2147483648 else 0) ∧ Fits .f64 .f32 (cn .f64 (zeroOf s)) := by
  have a : cconv .f64 .f32 (cn .f64 9223372036854775808) = some 2147483648 := by decide
  have b : cconv .f64 .f32 (cn .f64 0) = some 0 := by decide
  have c : Fits .f64 .f32 (cn .f64 9223372036854775808) := by
    have e : cn .f64 9223372036854775808 = some 9223372036854775808 := by decide
    rw [e]
    intro g m e h
    have hd : FloatKind.f64.decode 9223372036854775808 = .number true 0 (-1074) := by decide
    rw [hd] at h; cases h; decide
  have d : Fits .f64 .f32 (cn .f64 0) := by
    rw [cn_zero64]
    intro g m e h
    have hd : FloatKind.f64.decode 0 = .number false 0 (-1074) := by decide
    rw [hd] at h; cases h; decide
  unfold zeroOf
  split
  · exact ⟨a, c⟩
  · exact ⟨b, d⟩

set_option maxHeartbeats 400000 in
theorem impl_FlushNumber (x : Nat) (hx : x < 4294967296) (w : World) :
    Calls Tryz.prog 8 #[.float .f32 x] w (RetF .f32 (flushC (cn .f32 x)) w) := by
  by_cases hsub : isSub (cn .f32 x) = true
  · go_enter Tryz.func8, Tryz.ntmps8
    go_wp2_with (first | (go_at_call 15; refine (impl_IsSubnormal _ hx _).mono ?_; rintro _ _ ⟨nd, rfl, rfl⟩) | ((with_reducible refine up_up _ _ ?_); intro r nd hr) | (go_at_call 28; refine (math_Copysign0 _ (by have := hr.lt; rw [f64_sign] at this; omega) _).mono ?_; rintro _ _ ⟨nd, rfl, rfl⟩) | ((with_reducible refine up_down _ _ ?hf ?_); rotate_left; intro r nd hr))
    case hf => exact (down_zero _).2
    go_ret
    refine RetF.mk (hr.cast ?_)
    rw [(down_zero _).1]
    go_tidy
    rcases cn_cases .f32 x with c | c
    · rw [c] at hsub; simp [isSub] at hsub
    · rw [c] at hsub ⊢
      simp only [isSub, decide_eq_true_eq] at hsub
      obtain ⟨X, eX, lX, cX, sX, _⟩ := up_spec x hx c
      have q : ∀ r, FE .f64 r (cconv .f32 .f64 (cn .f32 x)) → r = X := fun r h => FE_num h c eX
      have e := q _ ‹FE .f64 _ (cconv .f32 .f64 (cn .f32 x))›
      unfold sgn at sX
      rw [f64_sign, f32_sign, decide_eq_decide] at sX
      simp only [flushC]
      rw [if_pos hsub.2, e]
      simp only [sX]
  · have hs : isSub (cn .f32 x) = false := by simpa using hsub
    clear hsub
    go_enter Tryz.func8, Tryz.ntmps8
    go_wp2_with (go_at_call 15; refine (impl_IsSubnormal _ hx _).mono ?_; rintro _ _ ⟨nd, rfl, rfl⟩)
    go_ret
    refine RetF.mk ⟨?_, by rw [f32_sign]; omega⟩
    rcases cn_cases .f32 x with c | c
    · rw [c]; rfl
    · rw [c] at hs ⊢
      simp only [isSub, decide_eq_false_iff_not] at hs
      simp only [flushC]
      split
      · congr 1
        split <;> omega
      · rfl

end Go.Proofs.YticeapacffgikaaGreatDoor
