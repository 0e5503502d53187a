/- What the plain float functions of both sides give, up to which not-a-number it is. -/
import Derived.Test.YticeapacffgikaaGreatDoorRows
import Derived.Test.YticeapacffgikaaGreatDoorUp
import Derived.WalkKit
import Derived.WalkSpells
import Derived.WalkLawsBesides
namespace Go.Proofs.YticeapacffgikaaGreatDoor
set_option maxRecDepth 100000
open Go.RowKit

def isFin (c : Option Nat) : Bool := cord .f32 (cop .sub .f32 c c) (some 0) == some .eq

set_option maxHeartbeats 400000 in
theorem impl_IsFinite (x : Nat) (w : World) :
    Calls Tryz.prog 40 #[.float .f32 x] w (RetV (.bool (isFin (cn .f32 x))) w) := by
  go_enter Tryz.func40, Tryz.ntmps40
  go_wp2_with (((first | with_reducible refine up_add _ _ _ _ _ ?_ | with_reducible refine up_sub _ _ _ _ _ ?_ | with_reducible refine up_mul _ _ _ _ _ ?_ | with_reducible refine up_quo _ _ _ _ _ ?_)); intro r nd hr)
  go_ret
  refine RetV.mk ?_
  simp [order_cord, hr.out, isFin, cn_zero32]

/-! bits -/
theorem ext_f32bits (x : Nat) (w : World) : (callFunc 27 #[.float .f32 x]).run Tryz.prog w = .ok (.value (.int .u32 x)) w := by kernel_rfl
theorem ext_f32from (x : Int) (w : World) : (callFunc 26 #[.int .u32 x]).run Tryz.prog w = .ok (.value (.float .f32 x.toNat)) w := by kernel_rfl
theorem ext_f64bits (x : Nat) (w : World) : (callFunc 47 #[.float .f64 x]).run Tryz.prog w = .ok (.value (.int .u64 x)) w := by kernel_rfl
theorem ext_f64from (x : Int) (w : World) : (callFunc 46 #[.int .u64 x]).run Tryz.prog w = .ok (.value (.float .f64 x.toNat)) w := by kernel_rfl

/-- the bits of a 32-bit number, told as the program tells them -/
def bitsC : Option Nat → Nat
  | some v => v
  | none => 2143289344

theorem neq_self_nan {k : FloatKind} {x : Nat} (h : cn k x = none) : (k.format.order x x != some .eq) = true := by rw [order_none_left h]; rfl
theorem neq_self_num {k : FloatKind} {x : Nat} (h : cn k x = some x) : (k.format.order x x != some .eq) = false := by rw [order_self h]; rfl
theorem eql_self_num {k : FloatKind} {x : Nat} (h : cn k x = some x) : (k.format.order x x == some .eq) = true := by rw [order_self h]; rfl

set_option maxHeartbeats 400000 in
theorem spec_l01Bits (x : Nat) (hx : x < 4294967296) (w : World) :
    Calls Tryz.prog 53 #[.float .f32 x] w (RetV (.int .i64 (bitsC (cn .f32 x))) w) := by
  have e := ext_f32bits
  rcases cn_cases .f32 x with h | h
  · have h1 := neq_self_nan h
    rw [h]
    have hb : RowKit.Hid (cn .f32 x = none) := h
    clear h
    go_enter Tryz.func53, Tryz.ntmps53
    go_wp2
    go_ret
    exact RetV.mk0 rfl
  · have h1 := neq_self_num h
    rw [h]
    clear h
    go_enter Tryz.func53, Tryz.ntmps53
    go_wp2
    go_ret
    exact RetV.mk0 rfl

set_option maxHeartbeats 400000 in
theorem impl_BitsOf (x : Nat) (hx : x < 4294967296) (w : World) :
    Calls Tryz.prog 7 #[.float .f32 x] w (RetV (.int .i64 (bitsC (cn .f32 x))) w) := by
  have e := ext_f32bits
  rcases cn_cases .f32 x with h | h
  · have h1 := neq_self_nan h
    rw [h]
    clear h
    go_enter Tryz.func7, Tryz.ntmps7
    go_wp2
    go_ret
    exact RetV.mk0 rfl
  · have h1 := neq_self_num h
    rw [h]
    clear h
    go_enter Tryz.func7, Tryz.ntmps7
    go_wp2
    go_ret
    exact RetV.mk0 rfl

/-! the statements' own comparison of two numbers -/
theorem and_low (x n : Nat) : x &&& (2 ^ n - 1) = x % 2 ^ n := Nat.and_two_pow_sub_one_eq_mod x n
theorem u64_clear (x : Nat) (hx : x < 18446744073709551616) : bits .andNot .u64 (x : Int) 9223372036854775808 = ((x % 9223372036854775808 : Nat) : Int) := by
  have h := u64_andNot_nat x 9223372036854775808 hx (by omega)
  have h2 := and_low x 63
  simp only [Nat.reducePow, Nat.reduceSub] at h h2
  rw [h2] at h
  exact h

set_option maxHeartbeats 400000 in
theorem math_Abs (x : Nat) (hx : x < 18446744073709551616) (w : World) :
    Calls Tryz.prog 36 #[.float .f64 x] w (RetV (.float .f64 (x % 9223372036854775808)) w) := by
  have e := ext_f64bits
  have e2 := ext_f64from
  have e3 := u64_clear x hx
  go_enter Tryz.func36, Tryz.ntmps36
  go_wp2
  go_ret
  exact RetV.mk0 rfl

/-! the parts of a word -/
theorem word_lt64 (neg : Bool) (r : Nat) (h : r ≤ FloatKind.f64.format.infRung) : FloatKind.f64.format.word neg r < 18446744073709551616 := by
  have := FloatKind.f64.format.word_lt neg (show r < FloatKind.f64.format.signWeight by have := FloatKind.f64.format.infRung_lt; omega)
  exact this
theorem word_sign (k : FloatKind) (neg : Bool) (r : Nat) (h : r ≤ k.format.infRung) : decide (k.format.signWeight ≤ k.format.word neg r) = neg := by
  have := k.format.infRung_lt
  unfold Ieee.Format.word
  cases neg <;> simp <;> omega

/-- a word is its sign and its rung -/
theorem word_split (k : FloatKind) (x : Nat) (hx : x < 2 * k.format.signWeight) : x = k.format.word (decide (k.format.signWeight ≤ x)) (x % k.format.signWeight) := by
  unfold Ieee.Format.word
  by_cases h : k.format.signWeight ≤ x
  · simp only [h, decide_true, if_true]
    have : x % k.format.signWeight = x - k.format.signWeight := by
      rw [Nat.mod_eq_sub_mod h, Nat.mod_eq_of_lt (by omega)]
    omega
  · simp only [h, decide_false, Bool.false_eq_true, if_false]
    exact (Nat.mod_eq_of_lt (by omega)).symm

theorem decode_neg (k : FloatKind) (x : Nat) (hx : x < 2 * k.format.signWeight) : (k.decode x).neg = decide (k.format.signWeight ≤ x) := by
  have hp : 0 < k.format.signWeight := Nat.two_pow_pos _
  have e : (x / k.format.signWeight % 2 == 1) = decide (k.format.signWeight ≤ x) := by
    by_cases h : k.format.signWeight ≤ x
    · have h1 : x / k.format.signWeight = 1 := Nat.div_eq_of_lt_le (by omega) (by omega)
      simp [h, h1]
    · have h1 : x / k.format.signWeight = 0 := Nat.div_eq_of_lt (by omega)
      simp [h, h1]
  unfold FloatKind.decode Ieee.Format.read
  dsimp only
  rw [e]
  split
  · rfl
  · split
    · rfl
    · split <;> rfl
end Go.Proofs.YticeapacffgikaaGreatDoor
