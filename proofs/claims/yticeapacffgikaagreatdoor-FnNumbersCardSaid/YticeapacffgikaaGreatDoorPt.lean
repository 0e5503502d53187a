/- Plain laws: what is left of a number behind the point; the sine's polynomial. No condition. -/
import Derived.Test.YticeapacffgikaaGreatDoorTn
namespace Go.Proofs.YticeapacffgikaaGreatDoor
set_option maxRecDepth 100000
set_option exponentiation.threshold 3000

/-- every integer below 2^53, times a power of two, is a number -/
theorem exists_rung64 (m a : Nat) (hm : m < 9007199254740992) (ha : a ≤ 1500) : ∃ R, R < 9218868437227405312 ∧ rval 4503599627370496 R = m * tp a := by
  by_cases h0 : m = 0
  · subst h0; exact ⟨0, by omega, by rw [rval_zero _ (by omega), Nat.zero_mul]⟩
  have l1 := Nat.log2_self_le h0
  have l2 := log2_lt m
  have l3 : m.log2 ≤ 52 := (log2_le_of_lt (show m < 2 ^ (52 + 1) by omega)).resolve_left h0
  by_cases hs : m.log2 + a < 52
  · have hlt : m * 2 ^ a < 4503599627370496 := by
      have := Nat.mul_lt_mul_of_pos_right l2 (Nat.two_pow_pos a)
      rw [← Nat.pow_add] at this
      exact Nat.lt_of_lt_of_le this (show 2 ^ (m.log2 + 1 + a) ≤ 2 ^ 52 from Nat.pow_le_pow_right (by omega) (by omega))
    refine ⟨m * 2 ^ a, by omega, ?_⟩
    unfold rval tp
    rw [if_pos hlt]
  · obtain ⟨q, hq⟩ : ∃ q, q = m * 2 ^ (52 - m.log2) := ⟨_, rfl⟩
    have q1 : 4503599627370496 ≤ q := by
      rw [hq]
      have := Nat.mul_le_mul_right (2 ^ (52 - m.log2)) l1
      rw [← Nat.pow_add, show m.log2 + (52 - m.log2) = 52 by omega] at this
      exact this
    have q2 : q < 9007199254740992 := by
      rw [hq]
      have := Nat.mul_lt_mul_of_pos_right l2 (Nat.two_pow_pos (52 - m.log2))
      rw [← Nat.pow_add, show m.log2 + 1 + (52 - m.log2) = 53 by omega] at this
      exact this
    obtain ⟨s, hs'⟩ : ∃ s, s + 4503599627370496 = q := ⟨q - 4503599627370496, by omega⟩
    have hq3 : s < 4503599627370496 := by omega
    obtain ⟨e, he⟩ : ∃ e, e + 52 = m.log2 + a := ⟨m.log2 + a - 52, by omega⟩
    refine ⟨(e + 1) * 4503599627370496 + s, by omega, ?_⟩
    have e1 : ((e + 1) * 4503599627370496 + s) % 4503599627370496 = s := by rw [Nat.mul_comm, Nat.mul_add_mod, Nat.mod_eq_of_lt hq3]
    have e2 : ((e + 1) * 4503599627370496 + s) / 4503599627370496 = e + 1 := by rw [Nat.mul_comm, Nat.mul_add_div (by omega), Nat.div_eq_of_lt hq3, Nat.add_zero]
    unfold rval
    rw [if_neg (by omega), e1, e2, Nat.add_sub_cancel, Nat.add_comm 4503599627370496 s, hs', hq, Nat.mul_assoc, ← Nat.pow_add, show 52 - m.log2 + e = a by omega]
    rfl

theorem floor_tp (m : Nat) (e : Int) (R : Nat) (h1 : -1074 ≤ e) (h2 : m * 2 ^ (e + 1074).toNat = R) :
    (m <<< e.toNat) / 2 ^ (min (-e).toNat ((m <<< e.toNat).log2 + 2)) = R / tp 1074 := by
  have hcast : e - -1074 = e + ((1074 : Nat) : Int) := by omega
  obtain ⟨K, hK⟩ : ∃ K, K = 1074 := ⟨_, rfl⟩
  rw [← hK]
  cases m with
  | zero =>
    have : R = 0 := by rw [← h2, Nat.zero_mul]
    subst this
    simp
  | succ m =>
    generalize m + 1 = m at *
    rcases Int.le_total 0 e with he | he
    · rw [show (-e).toNat = 0 by omega, Nat.zero_min, Nat.pow_zero, Nat.div_one, Nat.shiftLeft_eq, ← h2, show (e + 1074).toNat = e.toNat + K by omega, Nat.pow_add, ← Nat.mul_assoc]
      exact (Nat.mul_div_cancel _ (tp_pos K)).symm
    · rw [show e.toNat = 0 by omega, Nat.shiftLeft_zero]
      have e2 : tp K = 2 ^ (-e).toNat * 2 ^ (e + 1074).toNat := by unfold tp; rw [← Nat.pow_add]; congr 1; omega
      rw [e2, ← h2, Nat.mul_div_mul_right _ _ (Nat.two_pow_pos _)]
      by_cases hmin : (-e).toNat ≤ m.log2 + 2
      · rw [Nat.min_eq_left hmin]
      · rw [Nat.min_eq_right (by omega)]
        have h1 : m < 2 ^ (m.log2 + 2) := Nat.lt_of_lt_of_le (log2_lt m) (Nat.pow_le_pow_right (by omega) (by omega))
        have h2 : m < 2 ^ (-e).toNat := Nat.lt_of_lt_of_le h1 (Nat.pow_le_pow_right (by omega) (by omega))
        rw [Nat.div_eq_of_lt h1, Nat.div_eq_of_lt h2]

/-- the word of 2^52 -/
theorem rval_two52 : rval 4503599627370496 4841369599423283200 = 4503599627370496 * tp 1074 := by
  have e1 : 4841369599423283200 % 4503599627370496 = 0 := by decide
  have e2 : 4841369599423283200 / 4503599627370496 = 1075 := by decide
  unfold rval tp
  rw [if_neg (by decide), e1, e2]

theorem sum_bd (c K A N : Int) (s : Bool) (h1 : c * K ≤ A) (h2 : A < c * K + K) (hK : 0 < K) (hN : N = (if s then -A else A) + (if s then c * K else -(c * K))) : -K ≤ N ∧ N ≤ K := by
  cases s <;> simp at hN <;> omega

open Ieee in
/-- what is left behind the point is at most 1 -/
theorem part_Db (s t : Bool) (m c x : Nat) (e j : Int) (d : Datum) (h1 : -1074 ≤ e) (h3 : -1074 ≤ j) (hc : (m * 2 ^ (e + 1074).toNat) / tp 1074 = c) (hx : x * 2 ^ (j + 1074).toNat = c * tp 1074)
    (ht : c ≠ 0 → t = !s) (h : (Datum.number s m e).sum (.number t x j) = some d) : Db d 0 := by
  simp only [Datum.sum, Option.some.injEq] at h
  subst h
  refine ⟨_, _, _, rfl, ?_⟩
  obtain ⟨b, hb⟩ : ∃ b, b = min e j := ⟨_, rfl⟩
  rw [← hb]
  rw [signed_eq, signed_eq]
  obtain ⟨A, hA⟩ : ∃ A, A = m * 2 ^ (e - b).toNat := ⟨_, rfl⟩
  obtain ⟨B, hB⟩ : ∃ B, B = x * 2 ^ (j - b).toNat := ⟨_, rfl⟩
  rw [← hA, ← hB]
  obtain ⟨P, hP⟩ : ∃ P, P = 2 ^ (b + 1074).toNat := ⟨_, rfl⟩
  have hP0 : 0 < P := by rw [hP]; exact Nat.two_pow_pos _
  have eA : A * P = m * 2 ^ (e + 1074).toNat := by rw [hA, hP, Nat.mul_assoc, ← Nat.pow_add]; congr 2; omega
  have eB : B * P = c * tp 1074 := by rw [hB, hP, Nat.mul_assoc, ← Nat.pow_add, ← hx]; congr 2; omega
  rw [← eA] at hc
  have hT : 0 < tp 1074 := tp_pos _
  have q1 : c * tp 1074 ≤ A * P := by rw [← hc]; exact Nat.div_mul_le_self _ _
  have q2 : A * P < c * tp 1074 + tp 1074 := by
    have := Nat.div_add_mod (A * P) (tp 1074)
    have h := Nat.mod_lt (A * P) hT
    rw [hc, Nat.mul_comm] at this
    omega
  rw [← eB] at q1 q2
  have q3 : B ≤ A := Nat.le_of_mul_le_mul_right q1 hP0
  by_cases hz : c = 0
  · have hB0 : B = 0 := by
      rw [hz, Nat.zero_mul] at eB
      rcases Nat.mul_eq_zero.1 eB with h | h <;> omega
    subst hB0
    by_cases hb0 : b ≤ 0
    · right
      refine ⟨hb0, ?_⟩
      have e2 : tp 1074 = 2 ^ (0 - b).toNat * P := by unfold tp; rw [hP, ← Nat.pow_add]; congr 1; omega
      rw [e2, Nat.zero_mul, Nat.zero_add] at q2
      have := Nat.lt_of_mul_lt_mul_right q2
      have habs : ((if s = true then -(A : Int) else (A : Int)) + if t = true then -((0 : Nat) : Int) else ((0 : Nat) : Int)).natAbs = A := by
        cases s <;> cases t <;> simp
      rw [habs]
      omega
    · left
      have e2 : P = tp 1074 * 2 ^ b.toNat := by unfold tp; rw [hP, ← Nat.pow_add]; congr 1; omega
      have : A = 0 := by
        rcases Nat.eq_zero_or_pos A with h | h
        · exact h
        · exfalso
          have h1 : P ≤ A * P := Nat.le_mul_of_pos_left P h
          have h2 : tp 1074 ≤ P := by rw [e2]; exact Nat.le_mul_of_pos_right _ (Nat.two_pow_pos _)
          omega
      subst this
      split <;> split <;> simp
  · have ht := ht hz
    subst ht
    have habs : ((if s = true then -(A : Int) else (A : Int)) + if (!s) = true then -(B : Int) else (B : Int)).natAbs = A - B := by
      cases s <;> simp <;> omega
    rw [habs]
    by_cases hb0 : b ≤ 0
    · right
      refine ⟨hb0, ?_⟩
      have e2 : tp 1074 = 2 ^ (0 - b).toNat * P := by unfold tp; rw [hP, ← Nat.pow_add]; congr 1; omega
      rw [e2, ← Nat.add_mul] at q2
      have := Nat.lt_of_mul_lt_mul_right q2
      omega
    · left
      have e2 : P = tp 1074 * 2 ^ b.toNat := by unfold tp; rw [hP, ← Nat.pow_add]; congr 1; omega
      rcases Nat.lt_or_ge B A with h | h
      · exfalso
        have h1 : (B + 1) * P ≤ A * P := Nat.mul_le_mul_right P h
        have h2 : tp 1074 ≤ P := by rw [e2]; exact Nat.le_mul_of_pos_right _ (Nat.two_pow_pos _)
        rw [Nat.add_mul] at h1
        omega
      · omega

/-- the whole part of a number, as an integer -/
def tI (y : Nat) : Int := (floatToIntVal .f64 y .i64).getD 0
/-- what is left behind the point -/
def ptC : Option Nat → Option Nat
  | some y => if cord .f64 (cop .sub .f64 (some y) (some (fi (tI y)))) (some 0) == some .lt then cop .add .f64 (cop .sub .f64 (some y) (some (fi (tI y)))) (some 4607182418800017408) else cop .sub .f64 (some y) (some (fi (tI y)))
  | none => none

theorem fi_nat (c : Nat) (s : Bool) (x : Nat) (hx : x < 9218868437227405312) (hv : rval 4503599627370496 x = c * tp 1074) :
    FloatKind.f64.encode (.number s c 0) = FloatKind.f64.format.word s x := by
  refine nearest_rung FloatKind.f64.format s c 0 x (by rw [f64_inf]; omega) ?_
  rw [f64_least, f64_bin, hv]
  rw [show (0 - min (0 : Int) (-1074)).toNat = 1074 by omega, show (-1074 - min (0 : Int) (-1074)).toNat = 0 by omega, Nat.pow_zero, Nat.mul_one]
  rfl

theorem trunc_part (y : Nat) (hy : y < 18446744073709551616) (h : y % 9223372036854775808 < 4841369599423283200) :
    cn .f64 y = some y ∧ floatToIntVal .f64 y .i64 = some (tI y) ∧ cn .f64 (fi (tI y)) = some (fi (tI y)) ∧
    (∃ x, FloatKind.f64.encode ((FloatKind.f64.decode y).integral .zero) = x ∧ cn .f64 x = some x ∧ ((FloatKind.f64.format.order x 0 == some .eq) = true ∧ fi (tI y) = 0 ∨ (FloatKind.f64.format.order x 0 == some .eq) = false ∧ fi (tI y) = x)) ∧
    Fb .f64 (cop .sub .f64 (some y) (some (fi (tI y)))) 0 := by
  have cy : cn .f64 y = some y := cn_of_le _ _ (by rw [f64_sign, f64_inf]; omega)
  obtain ⟨m, e, hd, hle, hv⟩ := read_num .f64 y (by rw [f64_sign]; omega) (by rw [f64_sign, f64_inf]; omega)
  rw [f64_least] at hle hv
  rw [f64_bin, f64_sign] at hv
  have hee : e - -1074 = e + 1074 := by omega
  rw [hee] at hv
  obtain ⟨c, hc⟩ : ∃ c, c = rval 4503599627370496 (y % 9223372036854775808) / tp 1074 := ⟨_, rfl⟩
  have hcl : c < 4503599627370496 := by
    have := rval_lt 4503599627370496 (by omega) h
    rw [rval_two52] at this
    rw [hc, Nat.div_lt_iff_lt_mul (tp_pos _)]
    exact this
  have hcut := floor_tp m e _ hle hv
  rw [← hc] at hcut
  have hfl := hcut
  rw [← cut_zero (sgn .f64 y)] at hcut
  obtain ⟨x, hx, hxv⟩ := exists_rung64 c 1074 (by omega) (by omega)
  have hw := fi_nat c (sgn .f64 y) x hx hxv
  have hT : FloatKind.f64.encode ((FloatKind.f64.decode y).integral .zero) = FloatKind.f64.format.word (sgn .f64 y) x := by
    rw [hd, ← hw]
    show FloatKind.f64.encode (.number (sgn .f64 y) (Ieee.Toward.zero.cut (sgn .f64 y) (m <<< e.toNat) (-e).toNat) 0) = _
    rw [hcut]
  have hI : floatToIntVal .f64 y .i64 = some (if sgn .f64 y then -(c : Int) else (c : Int)) := by
    unfold floatToIntVal
    have : (FloatKind.f64.decode y).toInt .zero = some (if sgn .f64 y then -(c : Int) else (c : Int)) := by
      rw [hd]
      show some (Ieee.signed (sgn .f64 y) (Ieee.Toward.zero.cut (sgn .f64 y) (m <<< e.toNat) (-e).toNat) 0) = _
      rw [hcut, signed_eq, Nat.pow_zero, Nat.mul_one]
    rw [this]
    have hr : IntKind.i64.min ≤ (if sgn .f64 y then -(c : Int) else (c : Int)) ∧ (if sgn .f64 y then -(c : Int) else (c : Int)) ≤ IntKind.i64.max := by
      have e1 : IntKind.i64.min = -9223372036854775808 := by decide
      have e2 : IntKind.i64.max = 9223372036854775807 := by decide
      rw [e1, e2]
      split <;> omega
    simp only [hr, and_self, if_true]
  have hti : tI y = if sgn .f64 y then -(c : Int) else (c : Int) := by unfold tI; rw [hI]; rfl
  have hfi : fi (tI y) = FloatKind.f64.format.word (decide (tI y < 0)) x := by
    have : (tI y).natAbs = c := by rw [hti]; split <;> omega
    unfold fi FloatKind.nearest
    rw [this]
    exact fi_nat c _ x hx hxv
  have xinf : x ≤ FloatKind.f64.format.infRung := by rw [f64_inf]; omega
  obtain ⟨w1, w2, w3⟩ := decode_word .f64 (decide (tI y < 0)) x xinf
  obtain ⟨v1, v2, v3⟩ := decode_word .f64 (sgn .f64 y) x xinf
  have cfi : cn .f64 (fi (tI y)) = some (fi (tI y)) := by rw [hfi]; exact cn_of_le _ _ (by rw [w1]; exact xinf)
  have cT : cn .f64 (FloatKind.f64.format.word (sgn .f64 y) x) = some (FloatKind.f64.format.word (sgn .f64 y) x) := cn_of_le _ _ (by rw [v1]; exact xinf)
  have hx0 : x = 0 ↔ c = 0 := by
    constructor
    · intro h
      rw [h, rval_zero _ (by omega)] at hxv
      rcases Nat.mul_eq_zero.1 hxv.symm with q | q
      · exact q
      · have := tp_pos 1074; omega
    · intro h
      rw [h, Nat.zero_mul] at hxv
      rcases Nat.eq_zero_or_pos x with q | q
      · exact q
      · have := rval_lt 4503599627370496 (by omega) q
        rw [rval_zero _ (by omega)] at this
        omega
  refine ⟨cy, by rw [hI, hti], cfi, ⟨_, hT, cT, ?_⟩, ?_⟩
  · have ho := order_sr .f64 (FloatKind.f64.format.word (sgn .f64 y) x) 0 v2 (by rw [f64_sign]; omega) cT cn_zero64
    have es : sr .f64 (FloatKind.f64.format.word (sgn .f64 y) x) = if sgn .f64 y then -(x : Int) else (x : Int) := by rw [sr_eq, v1, v3]
    have e0 : sr .f64 0 = 0 := by decide
    rw [es, e0] at ho
    by_cases hz : c = 0
    · left
      have := hx0.2 hz
      subst this
      refine ⟨by rw [ho]; split <;> rfl, ?_⟩
      rw [hfi, hti, hz]
      split <;> rfl
    · right
      have hxn : x ≠ 0 := fun h => hz (hx0.1 h)
      refine ⟨?_, ?_⟩
      · rw [ho]
        cases sgn .f64 y
        · simp only [Bool.false_eq_true, if_false]
          rw [Int.compare_eq_gt.2 (by omega)]; rfl
        · simp only [if_true]
          rw [Int.compare_eq_lt.2 (by omega)]; rfl
      · rw [hfi]
        congr 1
        rw [hti]
        cases sgn .f64 y
        · simp
        · simp; omega
  · obtain ⟨n, j, hd2, hle2, hv2⟩ := read_num .f64 (fi (tI y)) (by rw [hfi]; exact w2) (by rw [hfi, w1, f64_inf]; exact hx)
    rw [f64_least] at hle2 hv2
    have e2 : fi (tI y) % FloatKind.f64.format.signWeight = x := by rw [hfi]; exact w1
    rw [f64_bin, e2, hxv, show j - -1074 = j + 1074 by omega] at hv2
    have e3 : sgn .f64 (fi (tI y)) = decide (tI y < 0) := by rw [hfi]; exact w3
    rw [e3] at hd2
    obtain ⟨d, hsum⟩ : ∃ d, (FloatKind.f64.decode y).sum (FloatKind.f64.decode (fi (tI y))).opposite = some d := by rw [hd, hd2]; exact ⟨_, rfl⟩
    have hdb : Db d 0 := by
      rw [hd, hd2] at hsum
      refine part_Db (sgn .f64 y) (!decide (tI y < 0)) m c n e j d hle hle2 (by rw [hv, hc]) hv2 (fun hz => ?_) hsum
      rw [hti]
      cases sgn .f64 y
      · simp
      · simp; omega
    refine ⟨FloatKind.f64.encode d, ?_, write_Db .f64 hdb (inR (by omega) (by omega))⟩
    show ((FloatKind.f64.decode y).sum (FloatKind.f64.decode (fi (tI y))).opposite).map FloatKind.f64.format.write = _
    rw [hsum]; rfl

theorem ptC_Fb (y : Nat) (hy : y < 18446744073709551616) (h : y % 9223372036854775808 < 4841369599423283200) : Fb .f64 (ptC (some y)) 1 := by
  obtain ⟨_, _, _, _, hf⟩ := trunc_part y hy h
  unfold ptC
  dsimp only
  split
  · exact Fb.add hf (Fb.of one_Lb) (inR (by omega) (by omega))
  · exact hf.mono (by omega)
end Go.Proofs.YticeapacffgikaaGreatDoor
