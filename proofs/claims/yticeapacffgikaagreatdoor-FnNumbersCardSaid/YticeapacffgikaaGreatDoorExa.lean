/- Plain laws of floating-point numbers: what is representable is written exactly; from 32 bits to 64 and back. No condition. -/
import Derived.Test.YticeapacffgikaaGreatDoorOrd
namespace Go.Proofs.YticeapacffgikaaGreatDoor
set_option maxRecDepth 100000

theorem log2_mul_pow (q a : Nat) (hq : q ≠ 0) : (q * 2 ^ a).log2 = q.log2 + a := by
  have h1 := Nat.log2_self_le hq
  have h2 := log2_lt q
  have hp : 0 < 2 ^ a := Nat.two_pow_pos _
  have hne : q * 2 ^ a ≠ 0 := by
    intro h
    rcases Nat.mul_eq_zero.1 h with h | h
    · exact hq h
    · omega
  have lo : 2 ^ (q.log2 + a) ≤ q * 2 ^ a := by rw [Nat.pow_add]; exact Nat.mul_le_mul_right _ h1
  have hi : q * 2 ^ a < 2 ^ (q.log2 + a + 1) := by
    rw [show q.log2 + a + 1 = (q.log2 + 1) + a by omega, Nat.pow_add]; exact Nat.mul_lt_mul_of_pos_right h2 hp
  have a1 := (Nat.log2_lt hne).2 hi
  have a2 := (Nat.le_log2 hne).2 lo
  omega

theorem cut_exact (neg : Bool) (q d : Nat) (hq : q ≠ 0) : Ieee.Toward.even.cut neg (q * 2 ^ d) d = q := by
  unfold Ieee.Toward.cut
  have hl := log2_mul_pow q d hq
  have hm : min d ((q * 2 ^ d).log2 + 2) = d := by rw [hl]; omega
  have hp : 0 < 2 ^ d := Nat.two_pow_pos _
  simp only [hm, Nat.one_shiftLeft, Nat.mul_div_cancel _ hp, Nat.mul_mod_left]
  have e1 : decide (2 ^ d < 2 * 0) = false := by simp
  have e2 : (2 ^ d == 2 * 0) = false := by rw [beq_eq_false_iff_ne]; omega
  simp [e2]

theorem nearest_of (f : Ieee.Format) (neg : Bool) (m : Nat) (p : Int) (q : Nat) (e : Int) (hq : q ≠ 0)
    (hv : m * 2 ^ (p - min p e).toNat = q * 2 ^ (e - min p e).toNat) (he : f.leastPlace ≤ e) (hlt : q < 2 * f.binade) (hge : f.binade ≤ q ∨ e = f.leastPlace)
    (hfin : (e - f.leastPlace).toNat * f.binade + q ≤ f.infRung) : f.nearest neg m p = f.word neg ((e - f.leastPlace).toNat * f.binade + q) := by
  have hm : m ≠ 0 := by
    intro h
    rw [h, Nat.zero_mul] at hv
    rcases Nat.mul_eq_zero.1 hv.symm with h | h
    · exact hq h
    · have := Nat.two_pow_pos (e - min p e).toNat; omega
  have hl : m.log2 + (p - min p e).toNat = q.log2 + (e - min p e).toNat := by
    rw [← log2_mul_pow m _ hm, ← log2_mul_pow q _ hq, hv]
  have hql : q.log2 ≤ f.fractionBits := by
    have : q < 2 ^ (f.fractionBits + 1) := by rw [Nat.pow_succ]; unfold Ieee.Format.binade at hlt; omega
    exact (log2_le_of_lt this).resolve_left hq
  have hlast : max (p + (m.log2 : Int) - f.fractionBits) f.leastPlace = e := by
    rcases hge with h | h
    · have : f.fractionBits ≤ q.log2 := (Nat.le_log2 hq).2 h
      omega
    · omega
  unfold Ieee.Format.nearest
  dsimp only
  rw [if_neg hm, hlast]
  have hk : Ieee.Toward.even.cut neg (m <<< (p - e).toNat) (e - p).toNat = q := by
    rw [Nat.shiftLeft_eq]
    rcases Int.le_total p e with h | h
    · have e1 : (p - e).toNat = 0 := by omega
      have e2 : min p e = p := by omega
      rw [e2, Int.sub_self, Int.toNat_zero, Nat.pow_zero, Nat.mul_one] at hv
      rw [e1, Nat.pow_zero, Nat.mul_one, hv]
      exact cut_exact neg q _ hq
    · have e1 : (e - p).toNat = 0 := by omega
      have e2 : min p e = e := by omega
      rw [e2, Int.sub_self, Int.toNat_zero, Nat.pow_zero, Nat.mul_one] at hv
      rw [e1, hv]
      have := cut_exact neg q 0 hq
      rwa [Nat.pow_zero, Nat.mul_one] at this
  rw [hk, Nat.min_eq_left hfin]

theorem nearest_zero (f : Ieee.Format) (neg : Bool) (p : Int) : f.nearest neg 0 p = f.word neg 0 := by
  unfold Ieee.Format.nearest; simp

/-- the datum of a rung, and what it is worth: a significand and a place -/
theorem rung_parts (f : Ieee.Format) (r : Nat) (hr : r ≠ 0) : ∃ (q : Nat) (e : Int), q ≠ 0 ∧ f.leastPlace ≤ e ∧ q < 2 * f.binade ∧ (f.binade ≤ q ∨ e = f.leastPlace) ∧
    (e - f.leastPlace).toNat * f.binade + q = r ∧ q * 2 ^ (e - f.leastPlace).toNat = rval f.binade r := by
  have hB : 0 < f.binade := Nat.two_pow_pos _
  by_cases h : r < f.binade
  · refine ⟨r, f.leastPlace, hr, Int.le_refl _, by omega, .inr rfl, by simp, ?_⟩
    unfold rval; rw [if_pos h]; simp
  · have hd : 1 ≤ r / f.binade := (Nat.le_div_iff_mul_le hB).2 (by omega)
    have hm := Nat.mod_lt r hB
    refine ⟨f.binade + r % f.binade, f.leastPlace + (r / f.binade - 1 : Nat), by omega, by omega, by omega, .inl (by omega), ?_, ?_⟩
    · have e1 : (f.leastPlace + ((r / f.binade - 1 : Nat) : Int) - f.leastPlace).toNat = r / f.binade - 1 := by omega
      rw [e1]
      have := Nat.div_add_mod r f.binade
      have e2 : (r / f.binade - 1) * f.binade + f.binade = r / f.binade * f.binade := by
        rw [← Nat.succ_mul]; congr 1; omega
      rw [Nat.mul_comm] at this
      omega
    · have e1 : (f.leastPlace + ((r / f.binade - 1 : Nat) : Int) - f.leastPlace).toNat = r / f.binade - 1 := by omega
      rw [e1]; unfold rval; rw [if_neg h]

/-- WHAT IS REPRESENTABLE IS WRITTEN EXACTLY. -/
theorem nearest_rung (f : Ieee.Format) (neg : Bool) (m : Nat) (p : Int) (r : Nat) (hr : r ≤ f.infRung)
    (hv : m * 2 ^ (p - min p f.leastPlace).toNat = rval f.binade r * 2 ^ (f.leastPlace - min p f.leastPlace).toNat) : f.nearest neg m p = f.word neg r := by
  have hB : 0 < f.binade := Nat.two_pow_pos _
  by_cases h0 : r = 0
  · subst h0
    rw [rval_zero _ hB, Nat.zero_mul] at hv
    rcases Nat.mul_eq_zero.1 hv with h | h
    · subst h; exact nearest_zero f neg p
    · have := Nat.two_pow_pos (p - min p f.leastPlace).toNat; omega
  · obtain ⟨q, e, hq, he, hlt, hge, hsum, hval⟩ := rung_parts f r h0
    have := nearest_of f neg m p q e hq ?_ he hlt hge (by omega)
    · rw [this, hsum]
    · rw [← hval, Nat.mul_assoc, ← Nat.pow_add] at hv
      -- both sides by the same power of two
      rcases Int.le_total p f.leastPlace with h | h
      · rw [show (p - min p e).toNat = (p - min p f.leastPlace).toNat by omega, hv]
        congr 2
        omega
      · have e1 : (p - min p f.leastPlace).toNat = (p - min p e).toNat + (min p e - f.leastPlace).toNat := by omega
        have e2 : (e - f.leastPlace).toNat + (f.leastPlace - min p f.leastPlace).toNat = (e - min p e).toNat + (min p e - f.leastPlace).toNat := by omega
        rw [e1, e2, Nat.pow_add, Nat.pow_add, ← Nat.mul_assoc, ← Nat.mul_assoc] at hv
        exact Nat.eq_of_mul_eq_mul_right (Nat.two_pow_pos _) hv

theorem decode_word (k : FloatKind) (neg : Bool) (r : Nat) (hr : r ≤ k.format.infRung) :
    k.format.word neg r % k.format.signWeight = r ∧ k.format.word neg r < 2 * k.format.signWeight ∧ sgn k (k.format.word neg r) = neg := by
  have hs := k.format.infRung_lt
  unfold sgn Ieee.Format.word
  cases neg
  · simp; exact ⟨Nat.mod_eq_of_lt (by omega), by omega, by omega⟩
  · simp; exact ⟨Nat.mod_eq_of_lt (by omega), by omega⟩

/-! from 32 bits to 64 -/
/-- a power of two, kept from being reckoned -/
def tp (n : Nat) : Nat := 2 ^ n
theorem tp_pos (n : Nat) : 0 < tp n := Nat.two_pow_pos n

theorem tp_add (a b c d e : Nat) (h : a + b + c = d + e) : tp a * 2 ^ b * 2 ^ c = 2 ^ d * tp e := by
  unfold tp
  rw [← Nat.pow_add, ← Nat.pow_add, ← Nat.pow_add, h]

theorem rval_up (r : Nat) (h : r < FloatKind.f32.format.infRung) (n : Nat) (hn : n = 925) : ∃ R, R < FloatKind.f64.format.infRung ∧ rval FloatKind.f64.format.binade R = rval FloatKind.f32.format.binade r * tp n := by
  rw [f32_inf] at h
  rw [f64_inf, f32_bin, f64_bin]
  have hb : (0 : Nat) < 4503599627370496 := by omega
  by_cases h0 : r = 0
  · subst h0
    exact ⟨0, by omega, by rw [rval_zero _ hb, rval_zero _ (by omega), Nat.zero_mul]⟩
  have key : ∀ (q d : Nat), 8388608 ≤ q → q < 16777216 → d ≤ 253 → ∀ s, s ≤ 23 → ∀ t, q * 2 ^ d = t * 2 ^ s → ∃ R, R < 9218868437227405312 ∧ rval 4503599627370496 R = t * tp n := by
    intro q d h1 h2 h3 s h4 t h5
    refine ⟨(d + 897 - s) * 4503599627370496 + (q * 536870912 - 4503599627370496), by omega, ?_⟩
    have hq : q * 536870912 - 4503599627370496 < 4503599627370496 := by omega
    have e1 : ((d + 897 - s) * 4503599627370496 + (q * 536870912 - 4503599627370496)) % 4503599627370496 = q * 536870912 - 4503599627370496 := by
      rw [Nat.mul_comm, Nat.mul_add_mod, Nat.mod_eq_of_lt hq]
    have e2 : ((d + 897 - s) * 4503599627370496 + (q * 536870912 - 4503599627370496)) / 4503599627370496 = d + 897 - s := by
      rw [Nat.mul_comm, Nat.mul_add_div hb, Nat.div_eq_of_lt hq, Nat.add_zero]
    unfold rval
    rw [if_neg (by omega), e1, e2]
    rw [show 4503599627370496 + (q * 536870912 - 4503599627370496) = q * tp 29 by unfold tp; omega]
    have : q * tp 29 * 2 ^ (d + 897 - s - 1) * 2 ^ s = t * tp n * 2 ^ s := by
      have e3 : tp 29 * 2 ^ (d + 897 - s - 1) * 2 ^ s = 2 ^ d * tp n := by
        have := tp_add 29 (d + 897 - s - 1) s d n (by omega)
        exact this
      rw [Nat.mul_assoc q, Nat.mul_assoc q, e3, ← Nat.mul_assoc, h5, Nat.mul_assoc, Nat.mul_assoc, Nat.mul_comm (2 ^ s)]
    exact Nat.eq_of_mul_eq_mul_right (Nat.two_pow_pos _) this
  by_cases hlt : r < 8388608
  · -- subnormal: brought up to a full significand
    have hl1 := Nat.log2_self_le h0
    have hl2 := log2_lt r
    have hl3 : r.log2 ≤ 22 := (log2_le_of_lt (show r < 2 ^ (22 + 1) by omega)).resolve_left h0
    obtain ⟨R, hR, hv⟩ := key (r * 2 ^ (23 - r.log2)) 0 (by
        have := Nat.mul_le_mul_right (2 ^ (23 - r.log2)) hl1
        rw [← Nat.pow_add, show r.log2 + (23 - r.log2) = 23 by omega] at this
        exact this) (by
        have := Nat.mul_lt_mul_of_pos_right hl2 (Nat.two_pow_pos (23 - r.log2))
        rw [← Nat.pow_add, show r.log2 + 1 + (23 - r.log2) = 24 by omega] at this
        exact this) (by omega) (23 - r.log2) (by omega) r (by simp)
    refine ⟨R, hR, ?_⟩
    rw [hv]
    congr 1
    unfold rval; rw [if_pos hlt]
  · have hd : r / 8388608 ≤ 254 := by omega
    obtain ⟨R, hR, hv⟩ := key (8388608 + r % 8388608) (r / 8388608 - 1) (by omega) (by omega) (by omega) 0 (by omega) ((8388608 + r % 8388608) * 2 ^ (r / 8388608 - 1)) (by simp)
    refine ⟨R, hR, ?_⟩
    rw [hv]
    congr 1
    unfold rval; rw [if_neg hlt]

/-- A 32-BIT NUMBER IN 64 BITS: the same value, the same sign. -/
theorem up_spec (x : Nat) (hx : x < 4294967296) (cx : cn .f32 x = some x) : ∃ X, cconv .f32 .f64 (some x) = some X ∧ X < 18446744073709551616 ∧ cn .f64 X = some X ∧ sgn .f64 X = sgn .f32 x ∧
    (x % 2147483648 < 2139095040 → X % 9223372036854775808 < 9218868437227405312 ∧ rval 4503599627370496 (X % 9223372036854775808) = rval 8388608 (x % 2147483648) * tp 925) ∧
    (x % 2147483648 = 2139095040 → X % 9223372036854775808 = 9218868437227405312) := by
  have hx' : x < 2 * FloatKind.f32.format.signWeight := by rw [f32_sign]; omega
  have hle := le_of_cn cx
  rcases Nat.lt_or_eq_of_le hle with hlt | heq
  · obtain ⟨m, e, hd, hle', hv⟩ := read_num .f32 x hx' hlt
    obtain ⟨n, hn⟩ : ∃ n, n = 925 := ⟨_, rfl⟩
    obtain ⟨R, hR, hRv⟩ := rval_up _ hlt n hn
    have hnr := nearest_rung FloatKind.f64.format (sgn .f32 x) m e R (by omega) (by
      rw [f32_least] at hle' hv
      rw [f64_least, hRv, ← hv, show min e (-1074) = -1074 by omega]
      have e0 : ((-1074 : Int) - -1074).toNat = 0 := by omega
      rw [e0, Nat.pow_zero, Nat.mul_one, Nat.mul_assoc]
      unfold tp
      rw [← Nat.pow_add]
      congr 2
      omega)
    obtain ⟨w1, w2, w3⟩ := decode_word .f64 (sgn .f32 x) R (by omega)
    refine ⟨FloatKind.f64.format.word (sgn .f32 x) R, ?_, ?_, ?_, w3, ?_, ?_⟩
    · simp only [cconv, hd]
      exact congrArg some hnr
    · rw [f64_sign] at w2; omega
    · exact cn_of_le _ _ (by rw [w1]; omega)
    · intro _
      rw [f64_sign] at w1
      rw [w1]
      rw [f64_inf] at hR
      rw [f32_bin, f64_bin, f32_sign, hn] at hRv
      exact ⟨hR, hRv⟩
    · intro h
      rw [f32_sign, f32_inf] at hlt
      omega
  · have hd := read_inf .f32 x hx' heq
    obtain ⟨w1, w2, w3⟩ := decode_word .f64 (sgn .f32 x) FloatKind.f64.format.infRung (Nat.le_refl _)
    refine ⟨FloatKind.f64.format.word (sgn .f32 x) FloatKind.f64.format.infRung, ?_, ?_, ?_, w3, ?_, ?_⟩
    · simp only [cconv, hd]; rfl
    · rw [f64_sign] at w2; omega
    · exact cn_of_le _ _ (by rw [w1]; omega)
    · intro h
      rw [f32_sign, f32_inf] at heq
      omega
    · intro _
      rw [f64_sign, f64_inf] at w1
      exact w1
end Go.Proofs.YticeapacffgikaaGreatDoor
