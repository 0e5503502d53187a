/- What LogNumber gives on both sides. -/
import Derived.Test.YtfocgpbodcbaeaaLw
import Derived.Test.YtfocgpbodcbaeaaLb
import Derived.Test.YtfocgpbodcbaeaaFn
namespace Go.Proofs.Ytfocgpbodcbaeaa
set_option maxRecDepth 100000
open Go.RowKit

/-- how a number stands to zero -/
theorem ord0 {x : Nat} (hx : x < 4294967296) (c : cn .f32 x = some x) : FloatKind.f32.format.order x 0 = some (if x % 2147483648 = 0 then .eq else if 2147483648 ≤ x then .lt else .gt) := by
  rw [order_sr .f32 x 0 (by rw [f32_sign]; omega) (by rw [f32_sign]; omega) c cn_zero32]
  have e0 : sr .f32 0 = 0 := by unfold sr; simp
  rw [e0]
  unfold sr
  rw [f32_sign]
  congr 1
  by_cases h : x % 2147483648 = 0
  · rw [if_pos h, h]; split <;> rfl
  · rw [if_neg h]
    by_cases h2 : 2147483648 ≤ x
    · rw [if_pos h2, if_pos h2, Int.compare_eq_lt]; omega
    · rw [if_neg h2, if_neg h2, Int.compare_eq_gt]; omega

theorem upord0 {x X : Nat} (hx : x < 4294967296) (c : cn .f32 x = some x) (e : cconv .f32 .f64 (some x) = some X) : FloatKind.f64.format.order X 0 = some (if x % 2147483648 = 0 then .eq else if 2147483648 ≤ x then .lt else .gt) := by
  rw [up_order hx (by omega) c cn_zero32 e (show cconv .f32 .f64 (some 0) = some 0 by decide), ord0 hx c]

set_option maxHeartbeats 400000 in
theorem math_Inf_neg (w : World) : Calls Try.prog 31 #[.int .i64 (-1)] w (RetV (.float .f64 18442240474082181120) w) := by
  have e := ext_f64from
  go_enter Try.func31, Try.ntmps31
  go_wp2
  go_ret
  exact RetV.mk0 rfl

set_option maxHeartbeats 400000 in
theorem math_NaN (w : World) : Calls Try.prog 32 #[] w (RetV (.float .f64 9221120237041090561) w) := by
  have e := ext_f64from
  go_enter Try.func32, Try.ntmps32
  go_wp2
  go_ret
  exact RetV.mk0 rfl

set_option maxHeartbeats 400000 in
theorem math_IsInf1 (x : Nat) (w : World) : Calls Try.prog 57 #[.float .f64 x, .int .i64 1] w (RetV (.bool (FloatKind.f64.format.order x 9218868437227405311 == some .gt)) w) := by
  go_enter Try.func57, Try.ntmps57
  go_wp2
  go_ret
  exact RetV.mk0 rfl

theorem nan_cn : cn .f64 9221120237041090561 = none := by decide
theorem ninf_cn : cn .f64 18442240474082181120 = some 18442240474082181120 := by decide
theorem FE_nan {c : Option Nat} (h : c = none) : FE .f64 9221120237041090561 c := ⟨by rw [h]; exact nan_cn, by rw [f64_sign]; omega⟩
theorem FE_ninf : FE .f64 18442240474082181120 (some 18442240474082181120) := ⟨ninf_cn, by rw [f64_sign]; omega⟩

/-- the logarithm of a 32-bit number, in 64 bits -/
def logWC : Option Nat → Option Nat
  | none => none
  | some x => if x % 2147483648 = 0 then some 18442240474082181120 else if 2147483648 ≤ x then none else if x = 2139095040 then some 9218868437227405312 else logC ((cconv .f32 .f64 (some x)).getD 0)

set_option maxHeartbeats 2000000 in
theorem spec_l01LogWide_pos (R : Nat) (hR1 : 3936146074321813504 ≤ R) (hR2 : R < 5183643171103440896) (w : World) :
    Calls Try.prog 48 #[.float .f64 R] w (RetF .f64 (logC R) w) := by
  have c := cn64 (show R < 9218868437227405312 by omega)
  have f1 := neq_self_num c
  have f2 : (FloatKind.f64.format.order R 0 == some .lt) = false := by rw [lss_pos (by omega) (by omega)]; simp
  have f3 : (FloatKind.f64.format.order R 0 == some .eq) = false := by rw [order_pos (by omega) (by omega), Nat.compare_eq_gt.2 (by omega)]; rfl
  have f4 : (FloatKind.f64.format.order R 9218868437227405311 == some .gt) = false := by rw [order_pos (by omega) (by omega), Nat.compare_eq_lt.2 (by omega)]; rfl
  clear c
  go_enter Try.func48, Try.ntmps48
  go_wp2_with (go_at_call 57; refine (math_IsInf1 _ _).mono ?_; rintro _ _ ⟨nd, rfl, rfl⟩)
  go_loop [0, 3] (fun x e => ∃ X n, Hid (LogRel R X n) ∧ x = .float .f64 X ∧ e = .int .i64 n) (fun x _ => bitsOf x)
  case atStart => exact ⟨R, 0, LogRel.start hR1 hR2, rfl, rfl⟩
  case round =>
    obtain ⟨Y, m, hy, rfl, rfl⟩ := hrel
    obtain ⟨y1, y2, _, _, m1, m2⟩ := hy.out
    have ho : (FloatKind.f64.format.order Y 4609434218613702656 == some .gt || FloatKind.f64.format.order Y 4609434218613702656 == some .eq) = decide (4609434218613702656 ≤ Y) := geq_pos (by omega) (by omega)
    by_cases hge : 4609434218613702656 ≤ Y
    · have ht : (FloatKind.f64.format.order Y 4609434218613702656 == some .gt || FloatKind.f64.format.order Y 4609434218613702656 == some .eq) = true := by rw [ho]; simpa using hge
      clear ho
      obtain ⟨Z, hZ⟩ : ∃ Z, Y = Z + 4503599627370496 := exists_half Y (by omega)
      have hm : ∀ t w, (binOp .quo t (.float .f64 Y) (.float .f64 4611686018427387904)).run Try.prog w = .ok (.float .f64 Z) w := fun t w => run_float_arith w .quo t .f64 Y _ _ (div_two' Y Z (by omega) (by omega) hZ)
      have HZ := Lib.hid hZ
      clear hZ
      go_wp2
      go_round
      case rel => exact ⟨_, _, LogRel.half hR1 hR2 hy.out hge HZ.out, rfl, by go_num⟩
      case measure =>
        have hZ := HZ.out
        simp only [bitsOf]; omega
    · have ht : (FloatKind.f64.format.order Y 4609434218613702656 == some .gt || FloatKind.f64.format.order Y 4609434218613702656 == some .eq) = false := by rw [ho]; simpa using hge
      clear ho
      go_wp2
      clear ht
      go_loop [0, 3] (fun x e => ∃ X n, Hid (LogRel R X n ∧ X < 4609434218613702656) ∧ x = .float .f64 X ∧ e = .int .i64 n) (fun x _ => upLeft x)
      case atStart => exact ⟨Y, m, ⟨hy.out, by omega⟩, rfl, rfl⟩
      case round =>
        clear hy y1 y2 m1 m2 hge
        obtain ⟨X, n, hx, rfl, rfl⟩ := hrel
        obtain ⟨⟨x1, x2, _, _, n1, n2⟩, x3⟩ := hx.out
        have ho : (FloatKind.f64.format.order X 4604930618986332160 == some .lt) = decide (X < 4604930618986332160) := lss_pos (by omega) (by omega)
        by_cases hlt : X < 4604930618986332160
        · have ht : (FloatKind.f64.format.order X 4604930618986332160 == some .lt) = true := by rw [ho]; simpa using hlt
          clear ho
          obtain ⟨Z, hZ⟩ : ∃ Z, Z = X + 4503599627370496 := ⟨_, rfl⟩
          have hm : ∀ t w, (binOp .mul t (.float .f64 X) (.float .f64 4611686018427387904)).run Try.prog w = .ok (.float .f64 Z) w := fun t w => run_float_arith w .mul t .f64 X _ _ (mul_two' X Z (by omega) (by omega) hZ)
          have HZ := Lib.hid hZ
          clear hZ
          go_wp2
          go_round
          case rel => exact ⟨_, _, ⟨LogRel.twice hR1 hR2 hx.out.1 hlt HZ.out, by have := HZ.out; omega⟩, rfl, by go_num⟩
          case measure =>
            have hZ := HZ.out
            simp only [upLeft, bitsOf]; omega
        · have ht : (FloatKind.f64.format.order X 4604930618986332160 == some .lt) = false := by rw [ho]; simpa using hlt
          clear ho
          have HE := Lib.hid (LogRel.end hx.out.1 (by omega) hx.out.2)
          have c1 : cn .f64 X = some X := cn64 (by omega)
          have C := Lib.hid c1
          clear c1 x1 x2 x3 hlt
          go_wp2_with (((first | with_reducible refine up_add _ _ _ _ _ ?_ | with_reducible refine up_sub _ _ _ _ _ ?_ | with_reducible refine up_mul _ _ _ _ _ ?_ | with_reducible refine up_quo _ _ _ _ _ ?_)); intro r nd hr)
          go_loopw [6, 7] (fun q k wr => ∃ (j : Nat) (rq nq : Nat) (kk : Int), j ≤ 13 ∧ kk + 2 * (j : Int) ≤ 25 ∧ 25 ≤ kk + 2 * (j : Int) ∧ k = .int .i64 kk ∧ q = .float .f64 rq ∧ Hid (FE .f64 rq (polyQ (cn .f64 r) j)) ∧ wr = w.drewN nq) (fun _ k _ => (intOf k + 1).toNat)
          case atStart => exact ⟨0, 0, _, 25, by omega, by omega, by omega, rfl, rfl, ⟨cn_zero64, by decide⟩, rfl⟩
          case round =>
            obtain ⟨j, rq, nq, kk, hj, k1, k2, rfl, rfl, hk, rfl⟩ := hrel
            have HR := Lib.hid hr
            clear hr
            by_cases hj2 : j < 13
            · have K := Lib.hid (show floatOfInt .f64 kk = fi (25 - 2 * (j : Int)) by rw [fi_word]; congr 1; omega)
              go_wp2_with (((first | with_reducible refine up_add _ _ _ _ _ ?_ | with_reducible refine up_sub _ _ _ _ _ ?_ | with_reducible refine up_mul _ _ _ _ _ ?_ | with_reducible refine up_quo _ _ _ _ _ ?_)); intro r nd hr)
              go_roundw
              case rel =>
                refine ⟨j + 1, _, _, kk - 2, by omega, by omega, by omega, rfl, rfl, ?_, rfl⟩
                refine hr.cast ?_
                go_tidy
                have hk1 := hk.out
                have K1 := K.out
                have hc := kint_facts j hj2
                clear hk K HR
                simp_all [FE, polyQ, one_cn]
              case measure => simp [intOf]; omega
            · obtain rfl : j = 13 := by omega
              go_wp2_with (((first | with_reducible refine up_add _ _ _ _ _ ?_ | with_reducible refine up_sub _ _ _ _ _ ?_ | with_reducible refine up_mul _ _ _ _ _ ?_ | with_reducible refine up_quo _ _ _ _ _ ?_)); intro r nd hr)
              go_ret
              refine RetF.mk (hr.cast ?_)
              go_tidy
              obtain ⟨eX, en⟩ := HE.out
              have c1 := C.out
              have hq := hk.out.out
              have hu := HR.out.out
              have en2 := fi_word n
              have ce := fi_cn n (by omega) (by omega)
              clear HE C hk HR
              simp_all [FE, logC, logL, one_cn, two_cn, ln2_cn]

set_option maxHeartbeats 1000000 in
theorem spec_l01LogWide_nan (R : Nat) (f : (FloatKind.f64.format.order R R != some .eq) = true) (w : World) :
    Calls Try.prog 48 #[.float .f64 R] w (RetV (.float .f64 9221120237041090561) w) := by
  go_enter Try.func48, Try.ntmps48
  go_wp2_with (go_at_call 32; refine (math_NaN _).mono ?_; rintro _ _ ⟨nd, rfl, rfl⟩)
  go_ret
  exact RetV.mk rfl
set_option maxHeartbeats 1000000 in
theorem spec_l01LogWide_neg (R : Nat) (f : (FloatKind.f64.format.order R R != some .eq) = false) (g : (FloatKind.f64.format.order R 0 == some .lt) = true) (w : World) :
    Calls Try.prog 48 #[.float .f64 R] w (RetV (.float .f64 9221120237041090561) w) := by
  go_enter Try.func48, Try.ntmps48
  go_wp2_with (go_at_call 32; refine (math_NaN _).mono ?_; rintro _ _ ⟨nd, rfl, rfl⟩)
  go_ret
  exact RetV.mk rfl
set_option maxHeartbeats 1000000 in
theorem spec_l01LogWide_zero (R : Nat) (f : (FloatKind.f64.format.order R R != some .eq) = false) (g : (FloatKind.f64.format.order R 0 == some .lt) = false) (h : (FloatKind.f64.format.order R 0 == some .eq) = true) (w : World) :
    Calls Try.prog 48 #[.float .f64 R] w (RetV (.float .f64 18442240474082181120) w) := by
  go_enter Try.func48, Try.ntmps48
  go_wp2_with (go_at_call 31; refine (math_Inf_neg _).mono ?_; rintro _ _ ⟨nd, rfl, rfl⟩)
  go_ret
  exact RetV.mk rfl
set_option maxHeartbeats 1000000 in
theorem spec_l01LogWide_inf (w : World) :
    Calls Try.prog 48 #[.float .f64 9218868437227405312] w (RetV (.float .f64 9218868437227405312) w) := by
  have f1 : (FloatKind.f64.format.order 9218868437227405312 9218868437227405312 != some .eq) = false := by decide
  have f2 : (FloatKind.f64.format.order 9218868437227405312 0 == some .lt) = false := by decide
  have f3 : (FloatKind.f64.format.order 9218868437227405312 0 == some .eq) = false := by decide
  have f4 : (FloatKind.f64.format.order 9218868437227405312 9218868437227405311 == some .gt) = true := by decide
  go_enter Try.func48, Try.ntmps48
  go_wp2_with (go_at_call 57; refine (math_IsInf1 _ _).mono ?_; rintro _ _ ⟨nd, rfl, rfl⟩)
  go_ret
  exact RetV.mk rfl

theorem retV_F {k : FloatKind} {v : Nat} {c : Option Nat} {w : World} (h : FE k v c) (e : Ending) (w' : World) (hr : RetV (.float k v) w e w') : RetF k c w e w' := by
  obtain ⟨n, rfl, rfl⟩ := hr
  exact ⟨v, n, rfl, h, rfl⟩

/-- the reference's logarithm in 64 bits, of a 32-bit number -/
theorem spec_l01LogWide_all (x R : Nat) (hx : x < 4294967296) (hR : FE .f64 R (cconv .f32 .f64 (cn .f32 x))) (w : World) :
    Calls Try.prog 48 #[.float .f64 R] w (RetF .f64 (logWC (cn .f32 x)) w) := by
  rcases cn_cases .f32 x with c | c
  · rw [c] at hR ⊢
    exact (spec_l01LogWide_nan R (neq_self_nan hR.out) w).mono (retV_F (FE_nan rfl))
  · obtain ⟨X, eX, lX, cX, _⟩ := up_spec x hx c
    obtain rfl := FE_num hR c eX
    have o := upord0 hx c eX
    have s := neq_self_num cX
    rw [c]
    by_cases hz : x % 2147483648 = 0
    · rw [if_pos hz] at o
      have e : logWC (some x) = some 18442240474082181120 := by simp only [logWC]; rw [if_pos hz]
      rw [e]
      exact (spec_l01LogWide_zero R s (by rw [o]; rfl) (by rw [o]; rfl) w).mono (retV_F FE_ninf)
    · rw [if_neg hz] at o
      by_cases hn : 2147483648 ≤ x
      · rw [if_pos hn] at o
        have e : logWC (some x) = none := by simp only [logWC]; rw [if_neg hz, if_pos hn]
        rw [e]
        exact (spec_l01LogWide_neg R s (by rw [o]; rfl) w).mono (retV_F (FE_nan rfl))
      · by_cases hi : x = 2139095040
        · subst hi
          have e0 : R = 9218868437227405312 := by
            have : cconv .f32 .f64 (some 2139095040) = some 9218868437227405312 := by decide
            rw [this] at eX; cases eX; rfl
          subst e0
          have e : logWC (some 2139095040) = some 9218868437227405312 := by decide +kernel
          rw [e]
          exact (spec_l01LogWide_inf w).mono (retV_F ⟨by decide, by rw [f64_sign]; omega⟩)
        · have z := cn_or32 c
          obtain ⟨X2, e2, r1, r2, _⟩ := up_range (x := x) (by omega) (by omega)
          rw [eX] at e2; cases e2
          have e : logWC (some x) = logC R := by simp only [logWC]; rw [if_neg hz, if_neg hn, if_neg hi, eX]; rfl
          rw [e]
          exact spec_l01LogWide_pos R r1 r2 w

theorem fits_logWC (x : Nat) (hx : x < 4294967296) : Fits .f64 .f32 (logWC (cn .f32 x)) := by
  rcases cn_cases .f32 x with c | c
  · rw [c]; trivial
  · rw [c]
    simp only [logWC]
    split
    · intro g m e h
      have : FloatKind.f64.decode 18442240474082181120 = .infinity true := by decide
      rw [this] at h; cases h
    · split
      · trivial
      · split
        · intro g m e h
          have : FloatKind.f64.decode 9218868437227405312 = .infinity false := by decide
          rw [this] at h; cases h
        · have z := cn_or32 c
          obtain ⟨X, eX, r1, r2, _⟩ := up_range (x := x) (by omega) (by omega)
          rw [eX]
          exact (logC_Lb X r1 r2).fits (by omega)

def logNC (c : Option Nat) : Option Nat := cconv .f64 .f32 (logWC c)

set_option maxHeartbeats 400000 in
theorem spec_l01Log (x : Nat) (hx : x < 4294967296) (w : World) :
    Calls Try.prog 30 #[.float .f32 x] w (RetF .f32 (logNC (cn .f32 x)) w) := by
  have HF := Lib.hid (fits_logWC x hx)
  go_enter Try.func30, Try.ntmps30
  go_wp2_with (first | ((with_reducible refine up_up _ _ ?_); intro r nd hr) | (go_at_call 48; refine (spec_l01LogWide_all x _ hx hr _).mono ?_; rintro _ _ ⟨r, nd, rfl, hr, rfl⟩) | (go_at_call 46; refine (spec_l01Narrow _ ?hf _).mono ?_; rotate_left; rintro _ _ ⟨r, nd, rfl, hr, rfl⟩))
  case hf => rw [hr.out]; exact HF.out
  go_ret
  refine RetF.mk (hr.cast ?_)
  go_tidy
  simp_all [FE, logNC]

set_option maxHeartbeats 400000 in
theorem spec_LogNumber (x : Nat) (hx : x < 4294967296) (w : World) :
    Calls Try.prog 16 #[.float .f32 x] w (RetF .f32 (logNC (cn .f32 x)) w) := by
  go_enter Try.func16, Try.ntmps16
  go_wp2_with (go_at_call 30; refine (spec_l01Log _ hx _).mono ?_; rintro _ _ ⟨r, nd, rfl, hr, rfl⟩)
  go_ret
  exact RetF.mk hr

theorem fits_ninf : Fits .f64 .f32 (cn .f64 18442240474082181120) := by
  rw [ninf_cn]
  intro g m e h
  have : FloatKind.f64.decode 18442240474082181120 = .infinity true := by decide
  rw [this] at h; cases h
theorem fits_nan : Fits .f64 .f32 (cn .f64 9221120237041090561) := by rw [nan_cn]; trivial

theorem isFin_none : isFin none = false := rfl

set_option maxHeartbeats 1000000 in
theorem impl_LogNumber (x : Nat) (hx : x < 4294967296) (w : World) :
    Calls Try.prog 17 #[.float .f32 x] w (RetF .f32 (logNC (cn .f32 x)) w) := by
  have HN := Lib.hid fits_ninf
  have HM := Lib.hid fits_nan
  rcases cn_cases .f32 x with c | c
  · have f1 := neq_self_nan c
    have f2 : (FloatKind.f32.format.order x 0 == some .eq) = false := by rw [order_none_left c]; rfl
    rw [c]; clear c
    go_enter Try.func17, Try.ntmps17
    go_wp2_with (first | (go_at_call 32; refine (math_NaN _).mono ?_; rintro _ _ ⟨nd, rfl, rfl⟩) | ((with_reducible refine up_down _ _ ?hf ?_); rotate_left; intro r nd hr))
    case hf => exact HM.out
    go_ret
    refine RetF.mk (hr.cast ?_)
    rw [nan_cn]; rfl
  · have o := ord0 hx c
    have s := neq_self_num c
    have fin := isFin_some hx c
    have C := Lib.hid c
    have HL := Lib.hid (fits_logWC x hx)
    by_cases hz : x % 2147483648 = 0
    · rw [if_pos hz] at o
      have o1 : (FloatKind.f32.format.order x 0 == some .eq) = true := by rw [o]; rfl
      have e : logWC (some x) = some 18442240474082181120 := by simp only [logWC]; rw [if_pos hz]
      have E := Lib.hid e
      clear o c hz e
      go_enter Try.func17, Try.ntmps17
      go_wp2_with (first | (go_at_call 31; refine (math_Inf_neg _).mono ?_; rintro _ _ ⟨nd, rfl, rfl⟩) | ((with_reducible refine up_down _ _ ?hf ?_); rotate_left; intro r nd hr))
      case hf => exact HN.out
      go_ret
      refine RetF.mk (hr.cast ?_)
      rw [ninf_cn, C.out, logNC, E.out]
    · rw [if_neg hz] at o
      by_cases hn : 2147483648 ≤ x
      · rw [if_pos hn] at o
        have o1 : (FloatKind.f32.format.order x 0 == some .eq) = false := by rw [o]; rfl
        have o2 : (FloatKind.f32.format.order x 0 == some .lt) = true := by rw [o]; rfl
        have e : logWC (some x) = none := by simp only [logWC]; rw [if_neg hz, if_pos hn]
        have E := Lib.hid e
        clear o c hz e
        go_enter Try.func17, Try.ntmps17
        go_wp2_with (first | (go_at_call 32; refine (math_NaN _).mono ?_; rintro _ _ ⟨nd, rfl, rfl⟩) | ((with_reducible refine up_down _ _ ?hf ?_); rotate_left; intro r nd hr))
        case hf => exact HM.out
        go_ret
        refine RetF.mk (hr.cast ?_)
        rw [nan_cn, C.out, logNC, E.out]
      · rw [if_neg hn] at o
        have o1 : (FloatKind.f32.format.order x 0 == some .eq) = false := by rw [o]; rfl
        have o2 : (FloatKind.f32.format.order x 0 == some .lt) = false := by rw [o]; rfl
        have hm : x % 2147483648 = x := by omega
        by_cases hi : x = 2139095040
        · have e : logNC (some x) = some x := by subst hi; decide +kernel
          have E := Lib.hid e
          have F := Lib.hid (show isFin (cn .f32 x) = false by rw [c, fin]; simp; omega)
          clear o c hz e fin hm hi
          go_enter Try.func17, Try.ntmps17
          go_wp2_with (go_at_call 33; refine (impl_IsFinite _ _).mono ?_; rw [F.out]; rintro _ _ ⟨nd, rfl, rfl⟩)
          go_ret
          refine RetF.mk ⟨?_, by rw [f32_sign]; omega⟩
          rw [C.out, E.out]
        · have z := cn_or32 c
          have F := Lib.hid (show isFin (cn .f32 x) = true by rw [c, fin]; simp; omega)
          obtain ⟨X, eX, r1, r2, _⟩ := up_range (x := x) (by omega) (by omega)
          have e : logWC (some x) = logC X := by simp only [logWC]; rw [if_neg hz, if_neg hn, if_neg hi, eX]; rfl
          have E := Lib.hid (And.intro e eX)
          clear o c hz e fin hm hi z
          go_enter Try.func17, Try.ntmps17
          go_wp2_with (first | (go_at_call 33; refine (impl_IsFinite _ _).mono ?_; rw [F.out]; rintro _ _ ⟨nd, rfl, rfl⟩) | ((with_reducible refine up_up _ _ ?_); intro r nd hr) | (go_at_call 34; obtain rfl := FE_num hr C.out E.out.2; refine (impl_logarithm _ r1 r2 _).mono ?_; rintro _ _ ⟨r, nd, rfl, hr, rfl⟩) | ((with_reducible refine up_down _ _ ?hf ?_); rotate_left; intro r nd hr))
          case hf => rw [hr.out, ← E.out.1, ← C.out]; exact HL.out
          go_ret
          refine RetF.mk (hr.cast ?_)
          go_tidy
          have e1 := E.out.1
          have c1 := C.out
          simp_all [FE, logNC]

set_option maxHeartbeats 400000 in
theorem law_LogNumber (x : Nat) (hx : x < 4294967296) (w : World) :
    Calls Try.prog 6 #[.float .f32 x] w (RetV (.bool true) w) := by
  go_enter Try.func6, Try.ntmps6
  go_wp2_with (first | (go_at_call 16; refine (spec_LogNumber _ hx _).mono ?_; rintro _ _ ⟨r, nd, rfl, hr, rfl⟩) | (go_at_call 17; refine (impl_LogNumber _ hx _).mono ?_; rintro _ _ ⟨r, nd, rfl, hr, rfl⟩) | ((with_reducible refine up_up _ _ ?_); intro r nd hr) | (go_at_call 13; refine (laws_sameFloat _ _ ?hs _).mono ?_; rotate_left; rintro _ _ ⟨nd, rfl, rfl⟩))
  case hs => go_tidy; simp_all [FE]
  go_ret
  exact RetV.mk rfl
end Go.Proofs.Ytfocgpbodcbaeaa
