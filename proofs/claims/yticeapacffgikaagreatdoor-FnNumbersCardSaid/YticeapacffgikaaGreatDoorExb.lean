/- Plain laws of floating-point numbers: how 32-bit numbers compare in 64 bits, and that they are narrowed back to what they were. No condition. -/
import Derived.Test.YticeapacffgikaaGreatDoorExa
namespace Go.Proofs.YticeapacffgikaaGreatDoor
set_option maxRecDepth 100000

theorem rval_lt_iff (B : Nat) (hB : 0 < B) (r s : Nat) : rval B r < rval B s ↔ r < s := by
  constructor
  · intro h
    rcases Nat.lt_trichotomy r s with t | t | t
    · exact t
    · subst t; omega
    · have := rval_lt B hB t; omega
  · exact rval_lt B hB

theorem cn_or32 {x v : Nat} (h : cn .f32 x = some v) : x % 2147483648 < 2139095040 ∨ x % 2147483648 = 2139095040 := by
  have := le_of_cn h
  rw [f32_sign, f32_inf] at this
  omega

theorem up_mono {x y X Y : Nat} (hx : x < 4294967296) (hy : y < 4294967296) (cx : cn .f32 x = some x) (cy : cn .f32 y = some y) (ex : cconv .f32 .f64 (some x) = some X) (ey : cconv .f32 .f64 (some y) = some Y) :
    X % 9223372036854775808 < Y % 9223372036854775808 ↔ x % 2147483648 < y % 2147483648 := by
  obtain ⟨X', eX, _, _, _, fx, ix⟩ := up_spec x hx cx
  obtain ⟨Y', eY, _, _, _, fy, iy⟩ := up_spec y hy cy
  rw [ex] at eX; cases eX
  rw [ey] at eY; cases eY
  rcases cn_or32 cx with a | a <;> rcases cn_or32 cy with b | b
  · obtain ⟨a1, a2⟩ := fx a
    obtain ⟨b1, b2⟩ := fy b
    have hp := tp_pos 925
    rw [← rval_lt_iff 4503599627370496 (by omega), a2, b2, ← rval_lt_iff 8388608 (by omega) (x % 2147483648) (y % 2147483648)]
    generalize tp 925 = T at hp
    exact Nat.mul_lt_mul_right hp
  · have := (fx a).1; have := iy b; omega
  · have := ix a; have := (fy b).1; omega
  · have := ix a; have := iy b; omega

theorem compare_mono (a b A B : Nat) (s t : Bool) (h1 : A < B ↔ a < b) (h2 : B < A ↔ b < a) (h3 : 0 < A ↔ 0 < a) (h4 : 0 < B ↔ 0 < b) :
    compare (if s then -(A : Int) else (A : Int)) (if t then -(B : Int) else (B : Int)) = compare (if s then -(a : Int) else (a : Int)) (if t then -(b : Int) else (b : Int)) := by
  have key : ∀ (p q P Q : Int), (P < Q ↔ p < q) → (Q < P ↔ q < p) → compare P Q = compare p q := by
    intro p q P Q h h'
    rcases Int.lt_trichotomy p q with c | c | c
    · rw [Int.compare_eq_lt.2 c, Int.compare_eq_lt.2 (h.2 c)]
    · have : P = Q := by
        have a : ¬ P < Q := fun z => by have := h.1 z; omega
        have b : ¬ Q < P := fun z => by have := h'.1 z; omega
        omega
      rw [this, c]; simp
    · rw [Int.compare_eq_gt.2 c, Int.compare_eq_gt.2 (h'.2 c)]
  cases s <;> cases t <;> simp only [if_true, if_false, Bool.false_eq_true] <;> refine key _ _ _ _ ?_ ?_ <;> omega

theorem sr_eq (k : FloatKind) (x : Nat) : sr k x = if sgn k x then -((x % k.format.signWeight : Nat) : Int) else ((x % k.format.signWeight : Nat) : Int) := by
  unfold sr sgn
  by_cases h : k.format.signWeight ≤ x <;> simp [h]

/-- 32-BIT NUMBERS COMPARE IN 64 BITS AS THEY DO IN 32. -/
theorem up_order {x y X Y : Nat} (hx : x < 4294967296) (hy : y < 4294967296) (cx : cn .f32 x = some x) (cy : cn .f32 y = some y) (ex : cconv .f32 .f64 (some x) = some X) (ey : cconv .f32 .f64 (some y) = some Y) :
    FloatKind.f64.format.order X Y = FloatKind.f32.format.order x y := by
  obtain ⟨X', eX, lX, cX, sX, _, _⟩ := up_spec x hx cx
  obtain ⟨Y', eY, lY, cY, sY, _, _⟩ := up_spec y hy cy
  rw [ex] at eX; cases eX
  rw [ey] at eY; cases eY
  rw [order_sr .f64 X Y (by rw [f64_sign]; omega) (by rw [f64_sign]; omega) cX cY, order_sr .f32 x y (by rw [f32_sign]; omega) (by rw [f32_sign]; omega) cx cy]
  rw [sr_eq .f64 X, sr_eq .f64 Y, sr_eq .f32 x, sr_eq .f32 y, sX, sY, f64_sign, f32_sign]
  have z : cconv .f32 .f64 (some 0) = some 0 := by decide
  have z1 := up_mono (x := 0) (y := x) (by omega) hx cn_zero32 cx z ex
  have z2 := up_mono (x := 0) (y := y) (by omega) hy cn_zero32 cy z ey
  congr 1
  exact compare_mono _ _ _ _ _ _ (up_mono hx hy cx cy ex ey) (up_mono hy hx cy cx ey ex) (by simpa using z1) (by simpa using z2)

theorem up_cord {c d : Option Nat} (hc : ∀ x, c = some x → x < 4294967296 ∧ cn .f32 x = some x) (hd : ∀ x, d = some x → x < 4294967296 ∧ cn .f32 x = some x) :
    cord .f64 (cconv .f32 .f64 c) (cconv .f32 .f64 d) = cord .f32 c d := by
  cases c with
  | none => rfl
  | some x =>
    cases d with
    | none => obtain ⟨X, e, _⟩ := up_spec x (hc x rfl).1 (hc x rfl).2; rw [e]; rfl
    | some y =>
      obtain ⟨hx, cx⟩ := hc x rfl
      obtain ⟨hy, cy⟩ := hd y rfl
      obtain ⟨X, ex, _⟩ := up_spec x hx cx
      obtain ⟨Y, ey, _⟩ := up_spec y hy cy
      rw [ex, ey]
      exact up_order hx hy cx cy ex ey

/-- BACK FROM 64 BITS. -/
theorem down_up (x : Nat) (hx : x < 4294967296) (cx : cn .f32 x = some x) : cconv .f64 .f32 (cconv .f32 .f64 (some x)) = some x ∧ Fits .f64 .f32 (cconv .f32 .f64 (some x)) := by
  obtain ⟨X, eX, lX, cX, sX, fx, ix⟩ := up_spec x hx cx
  have hx' : x < 2 * FloatKind.f32.format.signWeight := by rw [f32_sign]; omega
  have lX' : X < 2 * FloatKind.f64.format.signWeight := by rw [f64_sign]; omega
  have back : FloatKind.f32.format.word (sgn .f32 x) (x % 2147483648) = x := by
    obtain ⟨w1, w2, w3⟩ := decode_word .f32 (sgn .f32 x) (x % 2147483648) (by rw [f32_inf]; have := cn_or32 cx; omega)
    refine same_word .f32 _ _ w2 hx' ?_ w3
    rw [sr_eq, sr_eq, w3, w1, f32_sign]
  rw [eX]
  rcases cn_or32 cx with a | a
  · obtain ⟨a1, a2⟩ := fx a
    obtain ⟨m, e, hd, hle, hv⟩ := read_num .f64 X lX' (by rw [f64_sign, f64_inf]; exact a1)
    have hw : FloatKind.f32.format.nearest (sgn .f64 X) m e = x := by
      rw [← back, sX]
      refine nearest_rung FloatKind.f32.format _ m e _ (by have := f32_inf; omega) ?_
      rw [f64_least, f64_bin, f64_sign, a2] at hv
      rw [f64_least] at hle
      rw [f32_least]
      obtain ⟨n, hn⟩ : ∃ n, n = 925 := ⟨_, rfl⟩
      rw [← hn] at hv
      have hB : FloatKind.f32.format.binade = 8388608 := f32_bin
      rw [hB]
      rcases Int.le_total e (-149) with h | h
      · rw [show min e (-149) = e by omega, Int.sub_self, Int.toNat_zero, Nat.pow_zero, Nat.mul_one]
        have e1 : n = (-149 - e).toNat + (e - -1074).toNat := by omega
        have e2 : tp n = 2 ^ (-149 - e).toNat * 2 ^ (e - -1074).toNat := by unfold tp; rw [e1, Nat.pow_add]
        rw [e2, ← Nat.mul_assoc] at hv
        exact Nat.eq_of_mul_eq_mul_right (Nat.two_pow_pos _) hv
      · rw [show min e (-149) = -149 by omega, Int.sub_self, Int.toNat_zero, Nat.pow_zero, Nat.mul_one]
        have e1 : (e - -1074).toNat = (e - -149).toNat + n := by omega
        have e2 : 2 ^ (e - -1074).toNat = 2 ^ (e - -149).toNat * tp n := by unfold tp; rw [e1, Nat.pow_add]
        rw [e2, ← Nat.mul_assoc] at hv
        exact Nat.eq_of_mul_eq_mul_right (tp_pos _) hv
    refine ⟨?_, ?_⟩
    · simp only [cconv, hd]; exact congrArg some hw
    · intro g m' e' hd'
      rw [hd] at hd'
      cases hd'
      have hw' : FloatKind.f32.encode (.number (sgn .f64 X) m e) = x := hw
      rw [hw']
      obtain ⟨m2, e2, hd2, _⟩ := read_num .f32 x hx' (by rw [f32_sign, f32_inf]; exact a)
      rw [hd2]; rfl
  · have hd := read_inf .f64 X lX' (by rw [f64_sign, f64_inf]; exact ix a)
    refine ⟨?_, ?_⟩
    · simp only [cconv, hd, sX]
      rw [a] at back
      exact congrArg some back
    · intro g m' e' hd'
      rw [hd] at hd'; cases hd'
end Go.Proofs.YticeapacffgikaaGreatDoor
