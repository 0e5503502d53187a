/- What LogNumber gives on both sides. -/
import Derived.Test.YtlkhkpaggkpieaaLw
import Derived.Test.YtlkhkpaggkpieaaLb
import Derived.Test.YtlkhkpaggkpieaaFn
namespace Go.Proofs.Ytlkhkpaggkpieaa
set_option maxRecDepth 100000
open Go.RowKit

/-- how a number stands to zero -/
theorem ord0 {x : Nat} (hx : x < 4294967296) (c : cn .f32 x = some x) : FloatKind.f32.format.order x 0 = some (if x % 2147483648 = 0 then .eq else if 2147483648 ≤ x then .lt else .gt) := by
  rw [order_sr .f32 x 0 (by rw [f32_sign]; omega) (by rw [f32_sign]; omega) c cn_zero32]
  have e0 : sr .f32 0 = 0 := by unfold sr; simp
  rw [e0]
  unfold sr
  rw [f32_sign]
  congr 1
  by_cases h : x % 2147483648 = 0
  · rw [if_pos h, h]; split <;> rfl
  · rw [if_neg h]
    by_cases h2 : 2147483648 ≤ x
    · rw [if_pos h2, if_pos h2, Int.compare_eq_lt]; omega
    · rw [if_neg h2, if_neg h2, Int.compare_eq_gt]; omega

theorem upord0 {x X : Nat} (hx : x < 4294967296) (c : cn .f32 x = some x) (e : cconv .f32 .f64 (some x) = some X) : FloatKind.f64.format.order X 0 = some (if x % 2147483648 = 0 then .eq else if 2147483648 ≤ x then .lt else .gt) := by
  rw [up_order hx (by omega) c cn_zero32 e (show cconv .f32 .f64 (some 0) = some 0 by decide), ord0 hx c]

set_option maxHeartbeats 400000 in
theorem math_Inf_neg (w : World) : Calls Try.prog 39 #[.int .i64 (-1)] w (RetV (.float .f64 18442240474082181120) w) := by
  have e := ext_f64from
  go_enter Try.func39, Try.ntmps39
  go_wp2
  go_ret
  exact RetV.mk0 rfl

set_option maxHeartbeats 400000 in
theorem math_NaN (w : World) : Calls Try.prog 29 #[] w (RetV (.float .f64 9221120237041090561) w) := by
  have e := ext_f64from
  go_enter Try.func29, Try.ntmps29
  go_wp2
  go_ret
  exact RetV.mk0 rfl

set_option maxHeartbeats 400000 in
theorem math_IsInf1 (x : Nat) (w : World) : Calls Try.prog 65 #[.float .f64 x, .int .i64 1] w (RetV (.bool (FloatKind.f64.format.order x 9218868437227405311 == some .gt)) w) := by
  go_enter Try.func65, Try.ntmps65
  go_wp2
  go_ret
  exact RetV.mk0 rfl

theorem nan_cn : cn .f64 9221120237041090561 = none := by decide
theorem ninf_cn : cn .f64 18442240474082181120 = some 18442240474082181120 := by decide
theorem FE_nan {c : Option Nat} (h : c = none) : FE .f64 9221120237041090561 c := ⟨by rw [h]; exact nan_cn, by rw [f64_sign]; omega⟩
theorem FE_ninf : FE .f64 18442240474082181120 (some 18442240474082181120) := ⟨ninf_cn, by rw [f64_sign]; omega⟩

/-- the logarithm of a 32-bit number, in 64 bits -/
def logWC : Option Nat → Option Nat
  | none => none
  | some x => if x % 2147483648 = 0 then some 18442240474082181120 else if 2147483648 ≤ x then none else if x = 2139095040 then some 9218868437227405312 else logC ((cconv .f32 .f64 (some x)).getD 0)

theorem retV_F {k : FloatKind} {v : Nat} {c : Option Nat} {w : World} (h : FE k v c) (e : Ending) (w' : World) (hr : RetV (.float k v) w e w') : RetF k c w e w' := by
  obtain ⟨n, rfl, rfl⟩ := hr
  exact ⟨v, n, rfl, h, rfl⟩

theorem fits_logWC (x : Nat) (hx : x < 4294967296) : Fits .f64 .f32 (logWC (cn .f32 x)) := by
  rcases cn_cases .f32 x with c | c
  · rw [c]; trivial
  · rw [c]
    simp only [logWC]
    split
    · intro g m e h
      have : FloatKind.f64.decode 18442240474082181120 = .infinity true := by decide
      rw [this] at h; cases h
    · split
      · trivial
      · split
        · intro g m e h
          have : FloatKind.f64.decode 9218868437227405312 = .infinity false := by decide
          rw [this] at h; cases h
        · have z := cn_or32 c
          obtain ⟨X, eX, r1, r2, _⟩ := up_range (x := x) (by omega) (by omega)
          rw [eX]
          exact (logC_Lb X r1 r2).fits (by omega)

def logNC (c : Option Nat) : Option Nat := cconv .f64 .f32 (logWC c)

theorem fits_ninf : Fits .f64 .f32 (cn .f64 18442240474082181120) := by
  rw [ninf_cn]
  intro g m e h
  have : FloatKind.f64.decode 18442240474082181120 = .infinity true := by decide
  rw [this] at h; cases h
theorem fits_nan : Fits .f64 .f32 (cn .f64 9221120237041090561) := by rw [nan_cn]; trivial

theorem isFin_none : isFin none = false := rfl

set_option maxHeartbeats 1000000 in
theorem impl_LogNumber (x : Nat) (hx : x < 4294967296) (w : World) :
    Calls Try.prog 20 #[.float .f32 x] w (RetF .f32 (logNC (cn .f32 x)) w) := by
  have HN := Lib.hid fits_ninf
  have HM := Lib.hid fits_nan
  rcases cn_cases .f32 x with c | c
  · have f1 := neq_self_nan c
    have f2 : (FloatKind.f32.format.order x 0 == some .eq) = false := by rw [order_none_left c]; rfl
    rw [c]; clear c
    go_enter Try.func20, Try.ntmps20
    go_wp2_with (first | (go_at_call 29; refine (math_NaN _).mono ?_; rintro _ _ ⟨nd, rfl, rfl⟩) | ((with_reducible refine up_down _ _ ?hf ?_); rotate_left; intro r nd hr))
    case hf => exact HM.out
    go_ret
    refine RetF.mk (hr.cast ?_)
    rw [nan_cn]; rfl
  · have o := ord0 hx c
    have s := neq_self_num c
    have fin := isFin_some hx c
    have C := Lib.hid c
    have HL := Lib.hid (fits_logWC x hx)
    by_cases hz : x % 2147483648 = 0
    · rw [if_pos hz] at o
      have o1 : (FloatKind.f32.format.order x 0 == some .eq) = true := by rw [o]; rfl
      have e : logWC (some x) = some 18442240474082181120 := by simp only [logWC]; rw [if_pos hz]
      have E := Lib.hid e
      clear o c hz e
      go_enter Try.func20, Try.ntmps20
      go_wp2_with (first | (go_at_call 39; refine (math_Inf_neg _).mono ?_; rintro _ _ ⟨nd, rfl, rfl⟩) | ((with_reducible refine up_down _ _ ?hf ?_); rotate_left; intro r nd hr))
      case hf => exact HN.out
      go_ret
      refine RetF.mk (hr.cast ?_)
      rw [ninf_cn, C.out, logNC, E.out]
    · rw [if_neg hz] at o
      by_cases hn : 2147483648 ≤ x
      · rw [if_pos hn] at o
        have o1 : (FloatKind.f32.format.order x 0 == some .eq) = false := by rw [o]; rfl
        have o2 : (FloatKind.f32.format.order x 0 == some .lt) = true := by rw [o]; rfl
        have e : logWC (some x) = none := by simp only [logWC]; rw [if_neg hz, if_pos hn]
        have E := Lib.hid e
        clear o c hz e
        go_enter Try.func20, Try.ntmps20
        go_wp2_with (first | (go_at_call 29; refine (math_NaN _).mono ?_; rintro _ _ ⟨nd, rfl, rfl⟩) | ((with_reducible refine up_down _ _ ?hf ?_); rotate_left; intro r nd hr))
        case hf => exact HM.out
        go_ret
        refine RetF.mk (hr.cast ?_)
        rw [nan_cn, C.out, logNC, E.out]
      · rw [if_neg hn] at o
        have o1 : (FloatKind.f32.format.order x 0 == some .eq) = false := by rw [o]; rfl
        have o2 : (FloatKind.f32.format.order x 0 == some .lt) = false := by rw [o]; rfl
        have hm : x % 2147483648 = x := by omega
        by_cases hi : x = 2139095040
        · have e : logNC (some x) = some x := by subst hi; decide +kernel
          have E := Lib.hid e
          have F := Lib.hid (show isFin (cn .f32 x) = false by rw [c, fin]; simp; omega)
          clear o c hz e fin hm hi
          go_enter Try.func20, Try.ntmps20
          go_wp2_with (go_at_call 28; refine (impl_IsFinite _ _).mono ?_; rw [F.out]; rintro _ _ ⟨nd, rfl, rfl⟩)
          go_ret
          refine RetF.mk ⟨?_, by rw [f32_sign]; omega⟩
          rw [C.out, E.out]
        · have z := cn_or32 c
          have F := Lib.hid (show isFin (cn .f32 x) = true by rw [c, fin]; simp; omega)
          obtain ⟨X, eX, r1, r2, _⟩ := up_range (x := x) (by omega) (by omega)
          have e : logWC (some x) = logC X := by simp only [logWC]; rw [if_neg hz, if_neg hn, if_neg hi, eX]; rfl
          have E := Lib.hid (And.intro e eX)
          clear o c hz e fin hm hi z
          go_enter Try.func20, Try.ntmps20
          go_wp2_with (first | (go_at_call 28; refine (impl_IsFinite _ _).mono ?_; rw [F.out]; rintro _ _ ⟨nd, rfl, rfl⟩) | ((with_reducible refine up_up _ _ ?_); intro r nd hr) | (go_at_call 40; obtain rfl := FE_num hr C.out E.out.2; refine (impl_logarithm _ r1 r2 _).mono ?_; rintro _ _ ⟨r, nd, rfl, hr, rfl⟩) | ((with_reducible refine up_down _ _ ?hf ?_); rotate_left; intro r nd hr))
          case hf => rw [hr.out, ← E.out.1, ← C.out]; exact HL.out
          go_ret
          refine RetF.mk (hr.cast ?_)
          go_tidy
          have e1 := E.out.1
          have c1 := C.out
          simp_all [FE, logNC]

end Go.Proofs.Ytlkhkpaggkpieaa
