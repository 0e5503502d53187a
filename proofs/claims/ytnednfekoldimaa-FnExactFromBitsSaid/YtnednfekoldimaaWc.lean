/- What FromBits gives on both sides. -/
import Derived.Test.YtnednfekoldimaaWb
namespace Go.Proofs.Ytnednfekoldimaa
open Go.RowKit

set_option maxHeartbeats 400000 in
theorem spec_l00In (n lo hi : Int) (w : World) :
    Calls Try.prog 30 #[.int .i64 n, .int .i64 lo, .int .i64 hi] w (RetV (.bool (decide (lo ≤ n) && decide (n ≤ hi))) w) := by
  go_enter Try.func30, Try.ntmps30
  go_wp2
  all_goals go_ret
  all_goals exact RetV.mk0 (by simp_all <;> omega)

set_option maxHeartbeats 400000 in
theorem impl_within (n lo hi : Int) (w : World) :
    Calls Try.prog 32 #[.int .i64 n, .int .i64 lo, .int .i64 hi] w (RetV (.bool (decide (lo ≤ n) && decide (n ≤ hi))) w) := by
  go_enter Try.func32, Try.ntmps32
  go_wp2
  all_goals go_ret
  all_goals exact RetV.mk0 (by simp_all <;> omega)

/-- what FromBits gives -/
def fromC (n : Int) : Option Nat := if 0 ≤ n ∧ n ≤ 4294967295 then cn .f32 n.toNat else some 0

theorem FE_self {k : FloatKind} {x : Nat} (h : x < 2 * k.format.signWeight) : FE k x (cn k x) := ⟨rfl, h⟩

theorem FE_zero32 : FE .f32 0 (some 0) := ⟨cn_zero32, by rw [f32_sign]; omega⟩

set_option maxHeartbeats 400000 in
theorem spec_l01From (n : Int) (h0 : 0 ≤ n) (h1 : n ≤ 4294967295) (w : World) :
    Calls Try.prog 31 #[.int .i64 n] w (RetV (.float .f32 n.toNat) w) := by
  have e := ext_f32from
  go_enter Try.func31, Try.ntmps31
  go_wp2
  go_ret
  exact RetV.mk0 rfl

set_option maxHeartbeats 400000 in
theorem spec_FromBits (n : Int) (w : World) :
    Calls Try.prog 21 #[.int .i64 n] w (RetFB .f32 (fromC n) (decide (0 ≤ n ∧ n ≤ 4294967295)) w) := by
  by_cases h : 0 ≤ n ∧ n ≤ 4294967295
  · obtain ⟨h0, h1⟩ := h
    go_enter Try.func21, Try.ntmps21
    go_wp2_with (first | (go_at_call 30; refine (spec_l00In _ _ _ _).mono ?_; rintro _ _ ⟨n, rfl, rfl⟩) | (go_at_call 31; refine (spec_l01From _ h0 h1 _).mono ?_; rintro _ _ ⟨n, rfl, rfl⟩))
    go_ret2
    refine RetFB.mk ?_ ?_
    · unfold fromC; rw [if_pos ⟨h0, h1⟩]; exact FE_self (by rw [f32_sign]; omega)
    · simp [h0, h1]
  · have hb : (decide (0 ≤ n) && decide (n ≤ 4294967295)) = false := by
      rw [Bool.and_eq_false_iff]; simp only [decide_eq_false_iff_not]; omega
    go_enter Try.func21, Try.ntmps21
    go_wp2_with (go_at_call 30; refine (spec_l00In _ _ _ _).mono ?_; rintro _ _ ⟨n, rfl, rfl⟩)
    go_ret2
    refine RetFB.mk ?_ ?_
    · unfold fromC; rw [if_neg h]; exact FE_zero32
    · simp [h]

set_option maxHeartbeats 400000 in
theorem impl_FromBits (n : Int) (w : World) :
    Calls Try.prog 22 #[.int .i64 n] w (RetFB .f32 (fromC n) (decide (0 ≤ n ∧ n ≤ 4294967295)) w) := by
  have e := ext_f32from
  by_cases h : 0 ≤ n ∧ n ≤ 4294967295
  · obtain ⟨h0, h1⟩ := h
    go_enter Try.func22, Try.ntmps22
    go_wp2_with (go_at_call 32; refine (impl_within _ _ _ _).mono ?_; rintro _ _ ⟨n, rfl, rfl⟩)
    go_ret2
    refine RetFB.mk ?_ ?_
    · unfold fromC; rw [if_pos ⟨h0, h1⟩]; exact FE_self (by rw [f32_sign]; omega)
    · simp [h0, h1]
  · have hb : (decide (0 ≤ n) && decide (n ≤ 4294967295)) = false := by
      rw [Bool.and_eq_false_iff]; simp only [decide_eq_false_iff_not]; omega
    go_enter Try.func22, Try.ntmps22
    go_wp2_with (go_at_call 32; refine (impl_within _ _ _ _).mono ?_; rintro _ _ ⟨n, rfl, rfl⟩)
    go_ret2
    refine RetFB.mk ?_ ?_
    · unfold fromC; rw [if_neg h]; exact FE_zero32
    · simp [h]

set_option maxHeartbeats 400000 in
theorem law_FromBits (n : Int) (w : World) :
    Calls Try.prog 9 #[.int .i64 n] w (RetV (.bool true) w) := by
  go_enter Try.func9, Try.ntmps9
  go_wp2_with (first | (go_at_call 21; refine (spec_FromBits _ _).mono ?_; rintro _ _ ⟨r, n, rfl, hr, rfl⟩) | (go_at_call 22; refine (impl_FromBits _ _).mono ?_; rintro _ _ ⟨r, n, rfl, hr, rfl⟩) | (refine upon_conv _ _ _ .f32 .f64 (by decide) _ (by rw [Try.underlying23]; rfl) Try.underlying25 (fits_up _) ?_; intro r n hr) | (go_at_call 14; refine (laws_sameFloat _ _ ?hs _).mono ?_; rotate_left; rintro _ _ ⟨n, rfl, rfl⟩))
  case hs => go_tidy; simp_all [FE]
  go_ret
  exact RetV.mk rfl
end Go.Proofs.Ytnednfekoldimaa
