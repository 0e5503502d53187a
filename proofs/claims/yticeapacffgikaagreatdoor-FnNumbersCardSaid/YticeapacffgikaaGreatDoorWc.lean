/- What FromBits gives on both sides. -/
import Derived.Test.YticeapacffgikaaGreatDoorWb
namespace Go.Proofs.YticeapacffgikaaGreatDoor
set_option maxRecDepth 100000
open Go.RowKit

set_option maxHeartbeats 400000 in
theorem impl_within (n lo hi : Int) (w : World) :
    Calls Tryz.prog 25 #[.int .i64 n, .int .i64 lo, .int .i64 hi] w (RetV (.bool (decide (lo ≤ n) && decide (n ≤ hi))) w) := by
  go_enter Tryz.func25, Tryz.ntmps25
  go_wp2
  all_goals go_ret
  all_goals exact RetV.mk0 (by simp_all <;> omega)

/-- what FromBits gives -/
def fromC (n : Int) : Option Nat := if 0 ≤ n ∧ n ≤ 4294967295 then cn .f32 n.toNat else some 0

theorem FE_self {k : FloatKind} {x : Nat} (h : x < 2 * k.format.signWeight) : FE k x (cn k x) := ⟨rfl, h⟩

theorem FE_zero32 : FE .f32 0 (some 0) := ⟨cn_zero32, by rw [f32_sign]; omega⟩

set_option maxHeartbeats 400000 in
theorem spec_l01From (n : Int) (h0 : 0 ≤ n) (h1 : n ≤ 4294967295) (w : World) :
    Calls Tryz.prog 23 #[.int .i64 n] w (RetV (.float .f32 n.toNat) w) := by
  have e := ext_f32from
  go_enter Tryz.func23, Tryz.ntmps23
  go_wp2
  go_ret
  exact RetV.mk0 rfl

set_option maxHeartbeats 400000 in
theorem impl_FromBits (n : Int) (w : World) :
    Calls Tryz.prog 6 #[.int .i64 n] w (RetFB .f32 (fromC n) (decide (0 ≤ n ∧ n ≤ 4294967295)) w) := by
  have e := ext_f32from
  by_cases h : 0 ≤ n ∧ n ≤ 4294967295
  · obtain ⟨h0, h1⟩ := h
    go_enter Tryz.func6, Tryz.ntmps6
    go_wp2_with (go_at_call 25; refine (impl_within _ _ _ _).mono ?_; rintro _ _ ⟨nd, rfl, rfl⟩)
    go_ret2
    refine RetFB.mk ?_ ?_
    · unfold fromC; rw [if_pos ⟨h0, h1⟩]; exact FE_self (by rw [f32_sign]; omega)
    · simp [h0, h1]
  · have hb : (decide (0 ≤ n) && decide (n ≤ 4294967295)) = false := by
      rw [Bool.and_eq_false_iff]; simp only [decide_eq_false_iff_not]; omega
    go_enter Tryz.func6, Tryz.ntmps6
    go_wp2_with (go_at_call 25; refine (impl_within _ _ _ _).mono ?_; rintro _ _ ⟨nd, rfl, rfl⟩)
    go_ret2
    refine RetFB.mk ?_ ?_
    · unfold fromC; rw [if_neg h]; exact FE_zero32
    · simp [h]

end Go.Proofs.YticeapacffgikaaGreatDoor
