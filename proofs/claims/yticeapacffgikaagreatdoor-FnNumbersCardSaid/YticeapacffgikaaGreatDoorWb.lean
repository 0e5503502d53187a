/- What SameNumber, IsSubnormal and FromBits give on both sides. -/
import Derived.Test.YticeapacffgikaaGreatDoorExb
import Derived.Test.YticeapacffgikaaGreatDoorWa
namespace Go.Proofs.YticeapacffgikaaGreatDoor
set_option maxRecDepth 100000
open Go.RowKit

theorem bitsC_same {a b : Nat} : (bitsC (cn .f32 a) = bitsC (cn .f32 b)) ↔ cn .f32 a = cn .f32 b := by
  have key : ∀ x, cn .f32 x = some x → x ≠ 2143289344 := by
    intro x h e
    subst e
    have := le_of_cn h
    rw [f32_sign, f32_inf] at this
    omega
  rcases cn_cases .f32 a with ha | ha <;> rcases cn_cases .f32 b with hb | hb <;> rw [ha, hb] <;> simp only [bitsC]
  · have := key b hb
    simp; omega
  · have := key a ha
    simp; omega
  · simp

/-- equal, with one sign: the same number -/
theorem same_num {a b A B : Nat} (ha : a < 4294967296) (hb : b < 4294967296) (ca : cn .f32 a = some a) (cb : cn .f32 b = some b) (eA : cconv .f32 .f64 (some a) = some A) (eB : cconv .f32 .f64 (some b) = some B) :
    ((FloatKind.f32.format.order a b == some .eq) && (decide (9223372036854775808 ≤ A) == decide (9223372036854775808 ≤ B))) = decide (a = b) := by
  obtain ⟨_, e1, _, _, sA, _, _⟩ := up_spec a ha ca
  obtain ⟨_, e2, _, _, sB, _, _⟩ := up_spec b hb cb
  rw [eA] at e1; cases e1
  rw [eB] at e2; cases e2
  unfold sgn at sA sB
  rw [f64_sign] at sA sB
  rw [sA, sB, order_sr .f32 a b (by rw [f32_sign]; omega) (by rw [f32_sign]; omega) ca cb]
  by_cases h : a = b
  · subst h; simp
  · simp only [h, decide_false]
    by_cases hs : sr .f32 a = sr .f32 b
    · have hn : sgn .f32 a ≠ sgn .f32 b := fun q => h (same_word .f32 a b (by rw [f32_sign]; omega) (by rw [f32_sign]; omega) hs q)
      unfold sgn at hn
      have : (decide (FloatKind.f32.format.signWeight ≤ a) == decide (FloatKind.f32.format.signWeight ≤ b)) = false := by simpa using hn
      rw [this]; simp
    · have : (some (compare (sr .f32 a) (sr .f32 b)) == some Ordering.eq) = false := by
        have : compare (sr .f32 a) (sr .f32 b) ≠ .eq := fun q => hs (Int.compare_eq_eq.1 q)
        simpa using this
      rw [this]; simp

set_option maxHeartbeats 400000 in
theorem spec_l01Same (a b : Nat) (ha : a < 4294967296) (hb : b < 4294967296) (w : World) :
    Calls Tryz.prog 35 #[.float .f32 a, .float .f32 b] w (RetV (.bool (decide (cn .f32 a = cn .f32 b))) w) := by
  go_enter Tryz.func35, Tryz.ntmps35
  go_wp2_with (go_at_call 53; refine (spec_l01Bits _ (by assumption) _).mono ?_; rintro _ _ ⟨nd, rfl, rfl⟩)
  go_ret
  refine RetV.mk ?_
  have h := @bitsC_same a b
  show Value.bool ((bitsC (cn .f32 a) : Int) == (bitsC (cn .f32 b) : Int)) = _
  by_cases e : cn .f32 a = cn .f32 b
  · simp [e]
  · have : bitsC (cn .f32 a) ≠ bitsC (cn .f32 b) := fun q => e (h.1 q)
    simp [e]; omega

set_option maxHeartbeats 400000 in
theorem spec_SameNumber (a b : Nat) (ha : a < 4294967296) (hb : b < 4294967296) (w : World) :
    Calls Tryz.prog 14 #[.float .f32 a, .float .f32 b] w (RetV (.bool (decide (cn .f32 a = cn .f32 b))) w) := by
  go_enter Tryz.func14, Tryz.ntmps14
  go_wp2_with (go_at_call 35; refine (spec_l01Same a b ha hb _).mono ?_; rintro _ _ ⟨nd, rfl, rfl⟩)
  go_ret
  exact RetV.mk rfl

/-! subnormal numbers -/
theorem and_exp (x : Nat) : x &&& 2139095040 = x / 8388608 % 256 * 8388608 := by
  apply Nat.eq_of_testBit_eq
  intro i
  rw [show (2139095040 : Nat) = (2 ^ 8 - 1) * 2 ^ 23 by rfl, show (8388608 : Nat) = 2 ^ 23 by rfl, show (256 : Nat) = 2 ^ 8 by rfl]
  rw [Nat.testBit_and, Nat.testBit_mul_two_pow, Nat.testBit_mul_two_pow, Nat.testBit_mod_two_pow, Nat.testBit_div_two_pow, Nat.testBit_two_pow_sub_one]
  by_cases h : 23 ≤ i
  · simp only [h, decide_true, Bool.true_and]
    rw [show i - 23 + 23 = i by omega, Bool.and_comm]
  · simp [h]
theorem bits_and_i64_nat (a b : Nat) (ha : a < 9223372036854775808) (hb : b < 9223372036854775808) : bits .and .i64 (a : Int) (b : Int) = ((a &&& b : Nat) : Int) := by
  have hx : a &&& b ≤ a := Nat.and_le_left
  have h1 : (BitVec.ofInt 64 (a : Int)).toNat = a := by
    rw [BitVec.ofInt_natCast, BitVec.toNat_ofNat]; exact Nat.mod_eq_of_lt (by omega)
  have h2 : (BitVec.ofInt 64 (b : Int)).toNat = b := by
    rw [BitVec.ofInt_natCast, BitVec.toNat_ofNat]; exact Nat.mod_eq_of_lt (by omega)
  show IntKind.i64.wrap ((BitVec.ofInt 64 (a : Int) &&& BitVec.ofInt 64 (b : Int)).toNat : Int) = _
  rw [BitVec.toNat_and, h1, h2, IntKind.wrap_i64]
  omega
theorem i64_exp (x : Nat) (hx : x < 4294967296) : bits .and .i64 (x : Int) 2139095040 = ((x / 8388608 % 256 * 8388608 : Nat) : Int) := by
  have h := bits_and_i64_nat x 2139095040 (by omega) (by omega)
  rw [and_exp] at h
  exact h

/-- not zero, and nearer to 0 than 2^-126 -/
def isSub : Option Nat → Bool
  | some x => decide (0 < x % 2147483648 ∧ x % 2147483648 < 8388608)
  | none => false

theorem order_zero {x : Nat} (hx : x < 4294967296) (c : cn .f32 x = some x) : (FloatKind.f32.format.order x 0 = some .eq) ↔ x % 2147483648 = 0 := by
  rw [order_sr .f32 x 0 (by rw [f32_sign]; omega) (by rw [f32_sign]; omega) c cn_zero32]
  have e0 : sr .f32 0 = 0 := by unfold sr; simp
  rw [e0, sr_eq, f32_sign, Option.some.injEq, Int.compare_eq_eq]
  split <;> omega

theorem sub_lit : cconv .f32 .f64 (some 8388608) = some 4039728865751334912 := by decide

theorem abs_up {x X : Nat} (hx : x < 4294967296) (c : cn .f32 x = some x) (e : cconv .f32 .f64 (some x) = some X) : cn .f32 (x % 2147483648) = some (x % 2147483648) ∧ cconv .f32 .f64 (some (x % 2147483648)) = some (X % 9223372036854775808) := by
  have z := cn_or32 c
  have c' : cn .f32 (x % 2147483648) = some (x % 2147483648) := cn_of_le _ _ (by rw [f32_sign, f32_inf]; omega)
  refine ⟨c', ?_⟩
  obtain ⟨X1, e1, l1, k1, s1, f1, i1⟩ := up_spec x hx c
  obtain ⟨X2, e2, l2, k2, s2, f2, i2⟩ := up_spec (x % 2147483648) (by omega) c'
  rw [e] at e1; cases e1
  rw [e2]
  have hs : sgn .f64 X2 = false := by rw [s2]; unfold sgn; rw [f32_sign]; simp; omega
  have hlt : X2 < 9223372036854775808 := by unfold sgn at hs; rw [f64_sign] at hs; simpa using hs
  congr 1
  rw [Nat.mod_mod] at f2 i2
  rcases z with a | a
  · have q1 := (f1 a).2
    have q2 := (f2 a).2
    rw [← q1] at q2
    have inj : X2 % 9223372036854775808 = X % 9223372036854775808 := by
      rcases Nat.lt_trichotomy (X2 % 9223372036854775808) (X % 9223372036854775808) with t | t | t
      · have := rval_lt 4503599627370496 (by omega) t; omega
      · exact t
      · have := rval_lt 4503599627370496 (by omega) t; omega
    omega
  · have q1 := i1 a
    have q2 := i2 a
    omega

theorem sub_order {x X : Nat} (hx : x < 4294967296) (c : cn .f32 x = some x) (e : cconv .f32 .f64 (some x) = some X) :
    (FloatKind.f64.format.order (X % 9223372036854775808) 4039728865751334912 == some .lt) = decide (x % 2147483648 < 8388608) := by
  obtain ⟨c', e'⟩ := abs_up hx c e
  rw [up_order (x := x % 2147483648) (y := 8388608) (by omega) (by omega) c' (by decide) e' sub_lit]
  rw [order_sr .f32 _ _ (by rw [f32_sign]; omega) (by rw [f32_sign]; omega) c' (by decide)]
  have s1 : sr .f32 (x % 2147483648) = ((x % 2147483648 : Nat) : Int) := by
    unfold sr; rw [f32_sign, if_neg (by omega), Nat.mod_mod]
  have s2 : sr .f32 8388608 = 8388608 := by unfold sr; rw [f32_sign, if_neg (by omega)]; rfl
  rw [s1, s2, Bool.eq_iff_iff]
  simp only [beq_iff_eq, Option.some.injEq, Int.compare_eq_lt, decide_eq_true_eq]
  omega

set_option maxHeartbeats 400000 in
theorem impl_IsSubnormal (x : Nat) (hx : x < 4294967296) (w : World) :
    Calls Tryz.prog 15 #[.float .f32 x] w (RetV (.bool (isSub (cn .f32 x))) w) := by
  rcases cn_cases .f32 x with c | c
  · have o := order_none_left (k := .f32) (y := 0) c
    go_enter Tryz.func15, Tryz.ntmps15
    go_wp2_with (first | ((with_reducible refine up_up _ _ ?_); intro r nd hr) | (go_at_call 36; refine (math_Abs _ (by have := hr.lt; rw [f64_sign] at this; omega) _).mono ?_; rintro _ _ ⟨nd, rfl, rfl⟩))
    go_ret
    refine RetV.mk ?_
    have hn : cn .f64 (r % 9223372036854775808) = none := by
      have h1 := hr.out
      rw [c] at h1
      unfold cn at h1 ⊢
      rw [read_isNaN, f64_sign] at h1 ⊢
      rw [Nat.mod_mod]
      split at h1
      · rename_i hh; rw [if_pos hh]
      · cases h1
    rw [c]
    show Value.bool (_ && (FloatKind.f64.format.order (r % 9223372036854775808) _ == some .lt)) = _
    rw [order_none_left hn]
    simp [isSub]
  · have o := order_zero hx c
    rw [c]
    by_cases hz : x % 2147483648 = 0
    · have o' : (FloatKind.f32.format.order x 0 != some .eq) = false := by rw [o.2 hz]; rfl
      clear o
      go_enter Tryz.func15, Tryz.ntmps15
      go_wp2
      go_ret
      refine RetV.mk0 ?_
      simp [isSub, hz]
    · have o' : (FloatKind.f32.format.order x 0 != some .eq) = true := by
        have : ¬ FloatKind.f32.format.order x 0 = some .eq := fun q => hz (o.1 q)
        simpa using this
      clear o
      have C : Hid (cn .f32 x = some x) := c
      clear c
      go_enter Tryz.func15, Tryz.ntmps15
      go_wp2_with (first | ((with_reducible refine up_up _ _ ?_); intro r nd hr) | (go_at_call 36; refine (math_Abs _ (by have := hr.lt; rw [f64_sign] at this; omega) _).mono ?_; rintro _ _ ⟨nd, rfl, rfl⟩))
      go_ret
      refine RetV.mk ?_
      obtain ⟨X, eX, _⟩ := up_spec x hx C.out
      have e : r = X := by have := hr.out; rw [C.out, eX] at this; exact (cn_some this).symm
      subst e
      have key := sub_order hx C.out eX
      show Value.bool (FloatKind.f64.format.order (r % 9223372036854775808) _ == some .lt) = _
      rw [key]
      simp [isSub]
      omega

end Go.Proofs.YticeapacffgikaaGreatDoor
