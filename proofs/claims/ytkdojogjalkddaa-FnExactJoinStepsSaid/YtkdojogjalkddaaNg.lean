/- Plain laws of floating-point numbers: what is taken from zero; steps turned round. No condition. -/
import Derived.Test.YtkdojogjalkddaaKp
namespace Go.Proofs.Ytkdojogjalkddaa
set_option maxRecDepth 100000
set_option linter.unusedVariables false

/-- 0 less a number -/
def ngE (x : Nat) : Nat := (cop .sub .f32 (some 0) (cn .f32 x)).getD 0
theorem rung32 {x : Nat} (hx : x < 4294967296) : x % 2147483648 < 2147483648 := Nat.mod_lt _ (by omega)
theorem zero_less {x : Nat} (hx : x < 4294967296) (hf : x % 2147483648 < 2139095040) :
    ∃ r, cop .sub .f32 (some 0) (some x) = some r ∧ r < 4294967296 ∧ r % 2147483648 = x % 2147483648 ∧ sr .f32 r = - sr .f32 x := by
  obtain ⟨m0, e0, h0, l0, v0⟩ := read_num .f32 0 (by decide) (by decide)
  obtain ⟨m, e, hd, le, hv⟩ := read_num .f32 x (by rw [f32_sign]; omega) (by rw [f32_sign, f32_inf]; exact hf)
  rw [f32_sign] at hv
  have hu : FloatKind.f32.format.sub 0 x = ((FloatKind.f32.decode 0).sum (FloatKind.f32.decode x).opposite).map FloatKind.f32.format.write := rfl
  have hm0 : m0 = 0 := by
    have h1 : rval FloatKind.f32.format.binade (0 % FloatKind.f32.format.signWeight) = 0 := by rw [Nat.zero_mod]; exact rval_zero _ (by decide)
    rw [h1] at v0
    rcases Nat.mul_eq_zero.1 v0 with h | h
    · exact h
    · have := Nat.two_pow_pos (e0 - FloatKind.f32.format.leastPlace).toNat; omega
  have hs0 : sgn .f32 0 = false := by decide
  have key : ∀ (neg : Bool) (M : Nat) (B : Int), FloatKind.f32.format.leastPlace ≤ B → M * 2 ^ (B - FloatKind.f32.format.leastPlace).toNat = rval FloatKind.f32.format.binade (x % 2147483648) → FloatKind.f32.format.write (.number neg M B) = FloatKind.f32.format.word neg (x % 2147483648) := by
    intro neg M B hB h
    show FloatKind.f32.format.nearest neg M B = _
    refine nearest_rung _ neg M B _ (by rw [f32_inf]; omega) ?_
    have e1 : min B FloatKind.f32.format.leastPlace = FloatKind.f32.format.leastPlace := by omega
    rw [e1, h, Int.sub_self]
    simp
  show ∃ r, FloatKind.f32.format.sub 0 x = some r ∧ _
  rw [hu, h0, hd, hm0, hs0]
  simp only [Ieee.Datum.opposite, Ieee.Datum.sum, Option.map_some, Option.some.injEq, exists_eq_left']
  have hz : Ieee.signed false 0 (e0 - min e0 e).toNat = 0 := by rw [signed_eq]; simp
  rw [hz, Int.zero_add]
  have hB : FloatKind.f32.format.leastPlace ≤ min e0 e := by omega
  have hM : m * 2 ^ (e - min e0 e).toNat * 2 ^ (min e0 e - FloatKind.f32.format.leastPlace).toNat = rval FloatKind.f32.format.binade (x % 2147483648) := by
    rw [← hv, Nat.mul_assoc, ← Nat.pow_add]
    congr 2
    omega
  have hab : (Ieee.signed (!sgn .f32 x) m (e - min e0 e).toNat).natAbs = m * 2 ^ (e - min e0 e).toNat := by
    rw [signed_eq]
    cases sgn .f32 x
    · rw [if_pos (by rfl)]; omega
    · rw [if_neg (by decide)]; omega
  rw [hab, key _ _ _ hB hM]
  generalize hneg : (if Ieee.signed (!sgn .f32 x) m (e - min e0 e).toNat = 0 then (false && !sgn .f32 x) else decide (Ieee.signed (!sgn .f32 x) m (e - min e0 e).toNat < 0)) = neg
  obtain ⟨w1, w2, w3⟩ := decode_word .f32 neg (x % 2147483648) (by rw [f32_inf]; omega)
  rw [f32_sign] at w1 w2
  refine ⟨by omega, w1, ?_⟩
  rw [sr_eq, sr_eq, f32_sign, w1, w3]
  by_cases hx0 : x % 2147483648 = 0
  · rw [hx0]; cases neg <;> cases sgn .f32 x <;> rfl
  · have hM0 : m * 2 ^ (e - min e0 e).toNat ≠ 0 := by
      intro q
      rw [q, Nat.zero_mul] at hM
      have := rval_lt FloatKind.f32.format.binade (by decide) (show 0 < x % 2147483648 by omega)
      rw [rval_zero _ (by decide)] at this
      omega
    have hneg' : neg = !sgn .f32 x := by
      rw [← hneg, signed_eq]
      cases sgn .f32 x
      · rw [Bool.not_false]
        simp only [if_true]
        generalize m * 2 ^ (e - min e0 e).toNat = M at hM0
        rw [if_neg (by omega)]
        rw [decide_eq_true (by omega)]
      · rw [Bool.not_true]
        simp only [Bool.false_eq_true, if_false]
        generalize m * 2 ^ (e - min e0 e).toNat = M at hM0
        rw [if_neg (by omega)]
        rw [decide_eq_false (by omega)]
    rw [hneg']
    cases sgn .f32 x <;> simp
end Go.Proofs.Ytkdojogjalkddaa
