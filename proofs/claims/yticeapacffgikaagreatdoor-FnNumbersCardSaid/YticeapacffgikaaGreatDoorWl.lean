/- What WellCount gives on both sides. -/
import Derived.Test.YticeapacffgikaaGreatDoorTn
namespace Go.Proofs.YticeapacffgikaaGreatDoor
set_option maxRecDepth 100000
open Go.RowKit

/-! signs -/
theorem nearest_is_word (f : Ieee.Format) (neg : Bool) (m : Nat) (p : Int) : ∃ r, f.nearest neg m p = f.word neg r ∧ r ≤ f.infRung := by
  unfold Ieee.Format.nearest
  dsimp only
  split
  · exact ⟨0, rfl, Nat.zero_le _⟩
  · exact ⟨_, rfl, Nat.min_le_right ..⟩
theorem sgn_encode (k : FloatKind) (d : Ieee.Datum) (h : d.isNaN = false) : sgn k (k.encode d) = d.neg := by
  cases d with
  | nan => cases h
  | infinity s => exact (decode_word k s _ (Nat.le_refl _)).2.2
  | number s m e =>
    obtain ⟨r, hr, hl⟩ := nearest_is_word k.format s m e
    show sgn k (k.format.nearest s m e) = s
    rw [hr]
    exact (decode_word k s r hl).2.2
theorem neg_sgn (k : FloatKind) (x : Nat) (hx : x < 2 * k.format.signWeight) : (k.decode x).neg = sgn k x := decode_neg k x hx

open Ieee in
theorem sgn_mul {k : FloatKind} {x y r : Nat} (hx : x < 2 * k.format.signWeight) (hy : y < 2 * k.format.signWeight) (h : cop .mul k (some x) (some y) = some r) : sgn k r = (sgn k x ^^ sgn k y) := by
  have hu : k.format.mul x y = ((k.decode x).product (k.decode y)).map k.format.write := rfl
  have h' : k.format.mul x y = some r := h
  rw [hu] at h'
  obtain ⟨d, hd, rfl⟩ := Option.map_eq_some_iff.1 h'
  rw [show k.format.write d = k.encode d from rfl, sgn_encode k d (product_not_nan hd), ← neg_sgn k x hx, ← neg_sgn k y hy]
  unfold Datum.product at hd
  split at hd <;> first | (cases hd; done) | skip
  · rename_i e1 e2; cases hd; rw [e1, e2]; rfl
  · rename_i e1 e2; split at hd <;> cases hd; rw [e1, e2]; rfl
  · rename_i e1 e2; split at hd <;> cases hd; rw [e1, e2]; simp [Datum.neg, Bool.xor_comm]
  · rename_i e1 e2; cases hd; rw [e1, e2]; rfl

open Ieee in
theorem sgn_quo {k : FloatKind} {x y r : Nat} (hx : x < 2 * k.format.signWeight) (hy : y < 2 * k.format.signWeight) (h : cop .quo k (some x) (some y) = some r) : sgn k r = (sgn k x ^^ sgn k y) := by
  have hu : k.format.div x y = ((k.decode x).quotient (k.format.fractionBits + 2) (k.decode y)).map k.format.write := rfl
  have h' : k.format.div x y = some r := h
  rw [hu] at h'
  obtain ⟨d, hd, rfl⟩ := Option.map_eq_some_iff.1 h'
  rw [show k.format.write d = k.encode d from rfl, sgn_encode k d (quotient_not_nan hd), ← neg_sgn k x hx, ← neg_sgn k y hy]
  unfold Datum.quotient at hd
  split at hd <;> first | (cases hd; done) | skip
  · rename_i e1 e2; cases hd; rw [e1, e2]; rfl
  · rename_i e1 e2; cases hd; rw [e1, e2]; rfl
  · rename_i e1 e2
    split at hd
    · split at hd <;> cases hd; rw [e1, e2]; rfl
    · cases hd; rw [e1, e2]; rfl

open Ieee in
theorem sgn_root {x r : Nat} (hx : x < 18446744073709551616) (hs : sgn .f64 x = false) (h : csqrt (some x) = some r) : sgn .f64 r = false := by
  have h' : FloatKind.f64.format.sqrt x = some r := h
  unfold Ieee.Format.sqrt at h'
  obtain ⟨d, hd, rfl⟩ := Option.map_eq_some_iff.1 h'
  rw [show FloatKind.f64.format.write d = FloatKind.f64.encode d from rfl, sgn_encode .f64 d (root_not_nan hd)]
  have hn := neg_sgn .f64 x (by rw [f64_sign]; omega)
  rw [hs] at hn
  have hd' : (FloatKind.f64.decode x).root (FloatKind.f64.format.fractionBits + 2) = some d := hd
  generalize FloatKind.f64.decode x = y at hn hd'
  unfold Datum.root at hd'
  split at hd' <;> first | (cases hd'; done) | skip
  · rename_i s; split at hd'
    · cases hd'
    · cases hd'; exact hn
  · split at hd'
    · cases hd'; exact hn
    · split at hd' <;> cases hd'; rfl

theorem sgn_conv {s d : FloatKind} {x r : Nat} (hx : x < 2 * s.format.signWeight) (c : cn s x = some x) (h : cconv s d (some x) = some r) : sgn d r = sgn s x := by
  rw [← neg_sgn s x hx]
  simp only [cconv, Option.some.injEq] at h
  subst h
  cases hd : s.decode x with
  | nan a b => unfold cn at c; rw [hd] at c; cases c
  | infinity g => exact sgn_encode d _ rfl
  | number g m e => exact sgn_encode d _ rfl

/-- the quotient of WellCount -/
def wellQ (a b : Option Nat) : Option Nat := cop .quo .f32 (cop .mul .f32 a (rootC b)) (some 1078530011)

theorem wellQ_sgn {a b q : Nat} (ha : a < 2147483648) (hb : b < 2147483648) (hq : wellQ (some a) (some b) = some q) (cb : cn .f32 b = some b) : q < 2147483648 := by
  have hqlt : q < 2 * FloatKind.f32.format.signWeight := by
    unfold wellQ at hq
    unfold cop at hq
    split at hq
    · exact wf_sign (floatBits_wf hq)
    · cases hq
  have hs : sgn .f32 q = false := by
    unfold wellQ at hq
    cases hm : cop .mul .f32 (some a) (rootC (some b)) with
    | none => rw [hm] at hq; cases hq
    | some m =>
      rw [hm] at hq
      cases hr : rootC (some b) with
      | none => rw [hr] at hm; cases hm
      | some r =>
        rw [hr] at hm
        have hrs : sgn .f32 r = false ∧ r < 2 * FloatKind.f32.format.signWeight := by
          unfold rootC at hr
          obtain ⟨B, eB, lB, cB, sB, _⟩ := up_spec b (by omega) cb
          rw [eB] at hr
          cases hc : csqrt (some B) with
          | none => rw [hc] at hr; cases hr
          | some C =>
            rw [hc] at hr
            have h1 := sgn_root lB (by rw [sB]; unfold sgn; rw [f32_sign]; simp; omega) hc
            have cC : cn .f64 C = some C := by
              have hc' : FloatKind.f64.format.sqrt B = some C := hc
              unfold Ieee.Format.sqrt at hc'
              obtain ⟨d, hd, rfl⟩ := Option.map_eq_some_iff.1 hc'
              have := write_not_nan FloatKind.f64.format (root_not_nan hd)
              simp [cn, FloatKind.decode, this]
            have lC : C < 2 * FloatKind.f64.format.signWeight := by
              have := FloatKind.f64.format.sqrt_lt (x := B) hc
              rw [f64_sign]; exact this
            refine ⟨by rw [sgn_conv lC cC hr]; exact h1, ?_⟩
            simp only [cconv, Option.some.injEq] at hr
            subst hr
            split <;> first | exact encode_sign _ _ | (rw [f32_sign]; omega)
        have hml : m < 2 * FloatKind.f32.format.signWeight := wf_sign (floatBits_wf (op := .mul) (k := .f32) hm)
        have s1 := sgn_mul (k := .f32) (by rw [f32_sign]; omega) hrs.2 hm
        have s2 := sgn_quo (k := .f32) hml (by rw [f32_sign]; omega) hq
        rw [s2, s1, hrs.1]
        have e1 : sgn .f32 a = false := by unfold sgn; rw [f32_sign]; simp; omega
        have e2 : sgn .f32 1078530011 = false := by decide
        rw [e1, e2]; rfl
  unfold sgn at hs
  rw [f32_sign] at hs
  simpa using hs

/-! whole parts -/
theorem whole_eq (m : Nat) (e : Int) (K S : Nat) (hK : -(K : Int) ≤ e) (hS : m * 2 ^ (e + K).toNat = S) :
    (m <<< e.toNat) / 2 ^ (min (-e).toNat ((m <<< e.toNat).log2 + 2)) = S / 2 ^ K ∧ ((m <<< e.toNat) % 2 ^ (min (-e).toNat ((m <<< e.toNat).log2 + 2)) = 0 ↔ S % 2 ^ K = 0) := by
  have hKp : 0 < 2 ^ K := Nat.two_pow_pos _
  by_cases hm : m = 0
  · subst hm
    have : S = 0 := by rw [← hS, Nat.zero_mul]
    subst this
    simp
  rcases Int.le_total 0 e with he | he
  · have e1 : (-e).toNat = 0 := by omega
    rw [e1, Nat.zero_min, Nat.pow_zero, Nat.div_one, Nat.mod_one, Nat.shiftLeft_eq]
    have e2 : (e + K).toNat = e.toNat + K := by omega
    rw [e2, Nat.pow_add, ← Nat.mul_assoc] at hS
    rw [← hS, Nat.mul_div_cancel _ hKp, Nat.mul_mod_left]
    simp
  · have e1 : e.toNat = 0 := by omega
    rw [e1, Nat.shiftLeft_zero]
    have e2 : K = (-e).toNat + (e + K).toNat := by omega
    have hd : S / 2 ^ K = m / 2 ^ (-e).toNat := by
      rw [← hS, e2, Nat.pow_add]
      rw [show (e + ((((-e).toNat + (e + K).toNat : Nat)) : Int)).toNat = (e + K).toNat by omega]
      exact Nat.mul_div_mul_right _ _ (Nat.two_pow_pos _)
    have hmod : S % 2 ^ K = m % 2 ^ (-e).toNat * 2 ^ (e + K).toNat := by
      rw [← hS, e2, Nat.pow_add]
      rw [show (e + ((((-e).toNat + (e + K).toNat : Nat)) : Int)).toNat = (e + K).toNat by omega]
      exact Nat.mul_mod_mul_right _ _ _
    have hz : S % 2 ^ K = 0 ↔ m % 2 ^ (-e).toNat = 0 := by
      rw [hmod]
      have := Nat.two_pow_pos (e + K).toNat
      constructor
      · intro h
        rcases Nat.mul_eq_zero.1 h with h | h
        · exact h
        · omega
      · intro h; rw [h, Nat.zero_mul]
    rw [hd, hz]
    by_cases hmin : (-e).toNat ≤ m.log2 + 2
    · rw [Nat.min_eq_left hmin]; exact ⟨rfl, Iff.rfl⟩
    · rw [Nat.min_eq_right (by omega)]
      have h1 : m < 2 ^ (m.log2 + 2) := Nat.lt_of_lt_of_le (log2_lt m) (Nat.pow_le_pow_right (by omega) (by omega))
      have h2 : m < 2 ^ (-e).toNat := Nat.lt_of_lt_of_le h1 (Nat.pow_le_pow_right (by omega) (by omega))
      rw [Nat.div_eq_of_lt h1, Nat.div_eq_of_lt h2, Nat.mod_eq_of_lt h1, Nat.mod_eq_of_lt h2]
      exact ⟨rfl, Iff.rfl⟩

theorem small_ints : ∀ n : Fin 1001, rval 8388608 (floatOfInt .f32 (n.val : Int)) = n.val * 2 ^ 149 ∧ floatOfInt .f32 (n.val : Int) < 2139095040 := by decide +kernel
theorem small_wide : ∀ n : Fin 1002, floatToIntVal .f64 (FloatKind.f64.encode (.number false n.val 0)) .i64 = some (n.val : Int) := by decide +kernel
theorem rval_1000 : rval 8388608 1148846080 = 1000 * 2 ^ 149 := by decide +kernel

/-- the least integer that is not less than a 32-bit number from 0 to 1000 -/
def ceil32 (q : Nat) : Nat := rval 8388608 q / 2 ^ 149 + (if rval 8388608 q % 2 ^ 149 = 0 then 0 else 1)
def floor32 (q : Nat) : Nat := rval 8388608 q / 2 ^ 149

theorem rval_le_1000 {q : Nat} (h : q ≤ 1148846080) : rval 8388608 q ≤ 1000 * 2 ^ 149 := by
  rw [← rval_1000]
  rcases Nat.lt_or_eq_of_le h with h | h
  · exact Nat.le_of_lt (rval_lt 8388608 (by omega) h)
  · rw [h]; exact Nat.le_refl _

theorem two149 : 0 < 2 ^ 149 := Nat.two_pow_pos _

theorem floor_le {q : Nat} (h : q ≤ 1148846080) : floor32 q ≤ 1000 := by
  unfold floor32
  have := Nat.div_le_div_right (c := 2 ^ 149) (rval_le_1000 h)
  rwa [Nat.mul_div_cancel _ two149] at this

theorem ceil_le {q : Nat} (h : q ≤ 1148846080) : ceil32 q ≤ 1000 := by
  have h1 := rval_le_1000 h
  have h2 := floor_le h
  unfold ceil32 floor32 at *
  generalize rval 8388608 q = R at *
  have hp := two149
  generalize 2 ^ 149 = K at *
  split
  · omega
  · rename_i hz
    have hd := Nat.div_add_mod R K
    rcases Nat.lt_or_eq_of_le h2 with h | h
    · omega
    · rw [h, Nat.mul_comm] at hd; omega

/-- the program's conversion of a 32-bit number from 0 to 1000 to an integer -/
theorem trunc32 {q : Nat} (h : q ≤ 1148846080) : floatToIntVal .f32 q .i64 = some (floor32 q : Int) := by
  obtain ⟨m, e, hd, hle, hv⟩ := read_num .f32 q (by rw [f32_sign]; omega) (by rw [f32_sign, f32_inf, Nat.mod_eq_of_lt (by omega)]; omega)
  have hs : sgn .f32 q = false := by unfold sgn; rw [f32_sign]; simp; omega
  rw [hs] at hd
  rw [f32_least] at hle hv
  rw [f32_bin, f32_sign, Nat.mod_eq_of_lt (by omega)] at hv
  have hw := (whole_eq m e 149 (rval 8388608 q) (by omega) (by rw [← hv]; congr 2)).1
  have hfl := floor_le h
  unfold floatToIntVal
  have ht : (FloatKind.f32.decode q).toInt .zero = some (floor32 q : Int) := by
    rw [hd]
    show some (Ieee.signed false (Ieee.Toward.zero.cut false (m <<< e.toNat) (-e).toNat) 0) = _
    rw [cut_zero, hw, signed_eq, Nat.pow_zero, Nat.mul_one]
    rfl
  rw [ht]
  have hr : IntKind.i64.min ≤ (floor32 q : Int) ∧ (floor32 q : Int) ≤ IntKind.i64.max := by
    have e1 : IntKind.i64.min = -9223372036854775808 := by decide
    have e2 : IntKind.i64.max = 9223372036854775807 := by decide
    rw [e1, e2]
    omega
  simp only [hr, and_self, if_true]

/-- is it a whole number? -/
theorem isWhole32 {q : Nat} (h : q ≤ 1148846080) : (FloatKind.f32.format.order (floatOfInt .f32 (floor32 q : Int)) q == some .eq) = decide (rval 8388608 q % 2 ^ 149 = 0) := by
  have hfl := floor_le h
  have hs := small_ints ⟨floor32 q, by omega⟩
  dsimp only at hs
  obtain ⟨s1, s2⟩ := hs
  generalize hF : floatOfInt .f32 (floor32 q : Int) = F at s1 s2
  have cF : cn .f32 F = some F := cn_of_le _ _ (by rw [f32_sign, f32_inf, Nat.mod_eq_of_lt (by omega)]; omega)
  have cq : cn .f32 q = some q := cn_of_le _ _ (by rw [f32_sign, f32_inf, Nat.mod_eq_of_lt (by omega)]; omega)
  rw [order_sr .f32 F q (by rw [f32_sign]; omega) (by rw [f32_sign]; omega) cF cq, Bool.eq_iff_iff]
  have e1 : sr .f32 F = (F : Int) := by unfold sr; rw [f32_sign, if_neg (by omega), Nat.mod_eq_of_lt (by omega)]
  have e2 : sr .f32 q = (q : Int) := by unfold sr; rw [f32_sign, if_neg (by omega), Nat.mod_eq_of_lt (by omega)]
  rw [e1, e2]
  simp only [beq_iff_eq, Option.some.injEq, Int.compare_eq_eq, decide_eq_true_eq]
  have inj : F = q ↔ rval 8388608 F = rval 8388608 q := by
    constructor
    · intro h; rw [h]
    · intro h
      rcases Nat.lt_trichotomy F q with t | t | t
      · have := rval_lt 8388608 (by omega) t; omega
      · exact t
      · have := rval_lt 8388608 (by omega) t; omega
  have hcast : ((F : Int) = (q : Int)) ↔ F = q := by omega
  rw [hcast, inj, s1]
  unfold floor32
  generalize rval 8388608 q = R
  have hp := two149
  generalize 2 ^ 149 = K at hp
  have hd := Nat.div_add_mod R K
  rw [Nat.mul_comm] at hd
  omega

/-- the ceiling in 64 bits -/
theorem ceil64 {q X : Nat} (h : q ≤ 1148846080) (eX : cconv .f32 .f64 (some q) = some X) :
    cn .f64 X = some X ∧ floatToIntVal .f64 (FloatKind.f64.encode ((FloatKind.f64.decode X).integral .up)) .i64 = some (ceil32 q : Int) := by
  have cq : cn .f32 q = some q := cn_of_le _ _ (by rw [f32_sign, f32_inf, Nat.mod_eq_of_lt (by omega)]; omega)
  obtain ⟨X', e, lX, cX, sX, f, _⟩ := up_spec q (by omega) cq
  rw [eX] at e; cases e
  refine ⟨cX, ?_⟩
  obtain ⟨f1, f2⟩ := f (by omega)
  have hs : sgn .f64 X = false := by rw [sX]; unfold sgn; rw [f32_sign]; simp; omega
  have hsX : X < 9223372036854775808 := by unfold sgn at hs; rw [f64_sign] at hs; simpa using hs
  obtain ⟨m, e, hd, hle, hv⟩ := read_num .f64 X (by rw [f64_sign]; omega) (by rw [f64_sign, f64_inf]; exact f1)
  rw [hs] at hd
  rw [f64_least] at hle hv
  rw [f64_bin, f64_sign, f2, Nat.mod_eq_of_lt (show q < 2147483648 by omega)] at hv
  obtain ⟨K, hK⟩ : ∃ K, K = 1074 := ⟨_, rfl⟩
  obtain ⟨L, hL⟩ : ∃ L, L = 925 := ⟨_, rfl⟩
  rw [← hL] at hv
  have hw := whole_eq m e K (rval 8388608 q * tp L) (by omega) (by rw [← hv]; congr 2; omega)
  have hsplit : 2 ^ K = 2 ^ 149 * tp L := by unfold tp; rw [← Nat.pow_add]; congr 1; omega
  rw [hsplit, Nat.mul_div_mul_right _ _ (tp_pos L), Nat.mul_mod_mul_right] at hw
  obtain ⟨w1, w2⟩ := hw
  have hc : Ieee.Toward.up.cut false (m <<< e.toNat) (-e).toNat = ceil32 q := by
    unfold Ieee.Toward.cut
    simp only [Nat.one_shiftLeft, Bool.not_false, Bool.true_and]
    rw [w1]
    unfold ceil32
    congr 1
    have hz : rval 8388608 q % 2 ^ 149 * tp L = 0 ↔ rval 8388608 q % 2 ^ 149 = 0 := by
      have := tp_pos L
      constructor
      · intro h
        rcases Nat.mul_eq_zero.1 h with h | h
        · exact h
        · omega
      · intro h; rw [h, Nat.zero_mul]
    rw [hz] at w2
    by_cases hr : (m <<< e.toNat) % 2 ^ (min (-e).toNat ((m <<< e.toNat).log2 + 2)) = 0
    · rw [if_pos (w2.1 hr), hr]; rfl
    · rw [if_neg (fun q => hr (w2.2 q))]
      have : ((m <<< e.toNat) % 2 ^ (min (-e).toNat ((m <<< e.toNat).log2 + 2)) != 0) = true := by simpa using hr
      rw [this]; rfl
  have hi : (FloatKind.f64.decode X).integral .up = .number false (ceil32 q) 0 := by
    rw [hd]
    show Ieee.Datum.number false (Ieee.Toward.up.cut false (m <<< e.toNat) (-e).toNat) 0 = _
    rw [hc]
  rw [hi]
  exact small_wide ⟨ceil32 q, by have := ceil_le h; omega⟩

/-- the two ways to count agree -/
theorem ceil_floor {q : Nat} : (ceil32 q : Int) = if rval 8388608 q % 2 ^ 149 = 0 then (floor32 q : Int) else (floor32 q : Int) + 1 := by
  unfold ceil32 floor32
  split <;> simp

/-! the walks -/
/-- what WellCount gives -/
def wellB (a b : Option Nat) : Bool := posC a && posC b && (match wellQ a b with | some q => decide (q ≤ 1148846080) | none => false)
def wellN (a b : Option Nat) : Int := if wellB a b then (match wellQ a b with | some q => (ceil32 q : Int) | none => 0) else 0
def wellV (a b : Option Nat) : Value := .tuple #[.int .i64 (wellN a b), .bool (wellB a b)]
theorem wellV_bad {a b : Option Nat} (h : wellB a b = false) : wellV a b = .tuple #[.int .i64 0, .bool false] := by
  unfold wellV wellN; rw [h]; rfl

theorem well_leq {x y r : Nat} (px : posC (cn .f32 x) = true) (py : posC (cn .f32 y) = true) (hx : x < 4294967296) (hy : y < 4294967296) (hr : FE .f32 r (wellQ (cn .f32 x) (cn .f32 y))) :
    ((FloatKind.f32.format.order r 1148846080 == some .lt || FloatKind.f32.format.order r 1148846080 == some .eq) = true ∧ r ≤ 1148846080 ∧ wellB (cn .f32 x) (cn .f32 y) = true ∧ wellN (cn .f32 x) (cn .f32 y) = ceil32 r) ∨
    ((FloatKind.f32.format.order r 1148846080 == some .lt || FloatKind.f32.format.order r 1148846080 == some .eq) = false ∧ wellB (cn .f32 x) (cn .f32 y) = false) := by
  obtain ⟨x0, x1, cx⟩ := posC_some hx px
  obtain ⟨y0, y1, cy⟩ := posC_some hy py
  obtain ⟨h1, h2⟩ := hr
  rw [f32_sign] at h2
  cases hq : wellQ (cn .f32 x) (cn .f32 y) with
  | none =>
    refine .inr ⟨?_, ?_⟩
    · rw [hq] at h1
      have o : FloatKind.f32.format.order r 1148846080 = cord .f32 (cn .f32 r) (cn .f32 1148846080) := order_cord .f32 r 1148846080
      rw [o, h1]; rfl
    · unfold wellB; rw [hq]; simp
  | some q =>
    have hqr : q = r := cn_some (k := .f32) (by rw [h1, hq])
    subst hqr
    have hs : q < 2147483648 := by
      rw [cx, cy] at hq
      exact wellQ_sgn (by omega) (by omega) hq cy
    have cr : cn .f32 q = some q := by rw [h1, hq]
    have cK : cn .f32 1148846080 = some 1148846080 := by decide
    have o := order_sr .f32 q 1148846080 (by rw [f32_sign]; omega) (by rw [f32_sign]; omega) cr cK
    have e1 : sr .f32 q = (q : Int) := by unfold sr; rw [f32_sign, if_neg (by omega), Nat.mod_eq_of_lt (by omega)]
    have e2 : sr .f32 1148846080 = (1148846080 : Int) := by decide
    rw [e1, e2] at o
    by_cases h : q ≤ 1148846080
    · have hB : wellB (cn .f32 x) (cn .f32 y) = true := by unfold wellB; rw [px, py, hq]; simpa using h
      refine .inl ⟨?_, h, hB, ?_⟩
      · rw [o]
        rcases Nat.lt_or_eq_of_le h with h | h
        · rw [Int.compare_eq_lt.2 (by omega)]; rfl
        · rw [Int.compare_eq_eq.2 (by omega)]; rfl
      · unfold wellN; rw [hB, if_pos rfl, hq]
    · refine .inr ⟨?_, ?_⟩
      · rw [o, Int.compare_eq_gt.2 (by omega)]; rfl
      · unfold wellB; rw [px, py, hq]; simpa using h

theorem cnPi : cn .f32 1078530011 = some 1078530011 := by decide
theorem conv_int32 (v : Nat) (n : Int) (h : floatToIntVal .f32 v .i64 = some n) (w : World) : (convert 24 2 (.float .f32 v)).run Tryz.prog w = .ok (.int .i64 n) w :=
  run_convert_float_int w 24 2 .f32 .i64 v n (by rw [Tryz.underlying24]; rfl) Tryz.underlying2 h

theorem Fs_two (w : World) (x y : Nat) (T : TypeId) : Fs (w.alloc (.cells #[.float .f32 x, .float .f32 y] T)) (some ⟨w.heap.size, 0, none⟩) [x, y] := by
  refine .inr ⟨w.heap.size, 0, rfl, by simp, fun j hj => ?_⟩
  have : j = 0 ∨ j = 1 := by simp at hj; omega
  rcases this with h | h <;> subst h <;> simp

end Go.Proofs.YticeapacffgikaaGreatDoor
