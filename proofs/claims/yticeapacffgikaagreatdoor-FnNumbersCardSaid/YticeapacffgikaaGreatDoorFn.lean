/- What IsFinite tells of a number. No condition. -/
import Derived.Test.YticeapacffgikaaGreatDoorExb
import Derived.Test.YticeapacffgikaaGreatDoorWa
namespace Go.Proofs.YticeapacffgikaaGreatDoor
set_option maxRecDepth 100000

/-- what is taken from itself is zero for finite numbers alone -/
theorem sub_self32 {x : Nat} (hx : x < 4294967296) (c : cn .f32 x = some x) : cop .sub .f32 (some x) (some x) = if x % 2147483648 < 2139095040 then some 0 else none := by
  have hu : FloatKind.f32.format.sub x x = ((FloatKind.f32.decode x).sum (FloatKind.f32.decode x).opposite).map FloatKind.f32.format.write := rfl
  show FloatKind.f32.format.sub x x = _
  rw [hu]
  rcases cn_or32 c with a | a
  · obtain ⟨m, e, hd, _⟩ := read_num .f32 x (by rw [f32_sign]; omega) (by rw [f32_sign, f32_inf]; exact a)
    rw [hd, if_pos a]
    simp only [Ieee.Datum.opposite, Ieee.Datum.sum, Option.map_some]
    have ht : Ieee.signed (sgn .f32 x) m (e - min e e).toNat + Ieee.signed (!sgn .f32 x) m (e - min e e).toNat = 0 := by
      rw [signed_eq, signed_eq]
      cases sgn .f32 x <;> simp <;> omega
    rw [ht]
    have hb : (sgn .f32 x && !sgn .f32 x) = false := by cases sgn .f32 x <;> rfl
    rw [if_pos rfl, hb]
    refine congrArg some ?_
    show FloatKind.f32.format.nearest false (Int.natAbs 0) _ = 0
    rw [Int.natAbs_zero, nearest_zero]
    rfl
  · have hd := read_inf .f32 x (by rw [f32_sign]; omega) (by rw [f32_sign, f32_inf]; exact a)
    rw [hd, if_neg (by omega)]
    cases sgn .f32 x <;> rfl

theorem isFin_some {x : Nat} (hx : x < 4294967296) (c : cn .f32 x = some x) : isFin (some x) = decide (x % 2147483648 < 2139095040) := by
  unfold isFin
  rw [sub_self32 hx c]
  by_cases h : x % 2147483648 < 2139095040
  · rw [if_pos h]
    have : (cord .f32 (some 0) (some 0) == some .eq) = true := by decide
    rw [this]; simp [h]
  · rw [if_neg h]
    simp [cord, h]
end Go.Proofs.YticeapacffgikaaGreatDoor
