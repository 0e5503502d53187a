/- Plain laws of floating-point numbers: twice and half, and the logarithm's polynomial. No condition. -/
import Derived.Test.YtkemghecglbleaaGreatDoorYa
import Derived.Laws.Cover2
namespace Go.Proofs.YtkemghecglbleaaGreatDoor
set_option maxRecDepth 100000

theorem read64 (R : Nat) (h1 : 4503599627370496 ≤ R) (h2 : R < 9218868437227405312) :
    FloatKind.f64.decode R = .number false (4503599627370496 + R % 4503599627370496) (-1074 + (R / 4503599627370496 - 1 : Nat)) := by
  have e0 : R % 9223372036854775808 = R := Nat.mod_eq_of_lt (by omega)
  have e1 : (R / 9223372036854775808 % 2 == 1) = false := by
    rw [Nat.div_eq_of_lt (by omega)]; rfl
  unfold FloatKind.decode Ieee.Format.read
  dsimp only
  rw [f64_sign, f64_bin, f64_inf, f64_least, e0, e1, if_neg (by omega), if_pos h2]

theorem cn64 {R : Nat} (h : R < 9218868437227405312) : cn .f64 R = some R := cn_of_le _ _ (by rw [f64_sign, f64_inf, Nat.mod_eq_of_lt (by omega)]; omega)

theorem rval64 (R : Nat) (h1 : 4503599627370496 ≤ R) : rval 4503599627370496 R = (4503599627370496 + R % 4503599627370496) * 2 ^ (R / 4503599627370496 - 1) := by
  unfold rval; rw [if_neg (by omega)]

/-- TWICE A NUMBER. -/
theorem mul_two (R : Nat) (h1 : 4503599627370496 ≤ R) (h2 : R + 4503599627370496 < 9218868437227405312) : cop .mul .f64 (some R) (some 4611686018427387904) = some (R + 4503599627370496) := by
  have hd := read64 R h1 (by omega)
  have h2d : FloatKind.f64.decode 4611686018427387904 = .number false 4503599627370496 (-51) := by decide
  simp only [cop, floatBits]
  unfold Ieee.Format.mul
  show ((FloatKind.f64.decode R).product (FloatKind.f64.decode 4611686018427387904)).map FloatKind.f64.format.write = _
  rw [hd, h2d]
  simp only [Ieee.Datum.product, Option.map_some, Bool.xor_false]
  congr 1
  show FloatKind.f64.format.nearest false _ _ = _
  rw [nearest_rung FloatKind.f64.format false _ _ (R + 4503599627370496) (by rw [f64_inf]; omega)]
  · rfl
  · have e1 : (R + 4503599627370496) % 4503599627370496 = R % 4503599627370496 := Nat.add_mod_right _ _
    have e2 : (R + 4503599627370496) / 4503599627370496 = R / 4503599627370496 + 1 := Nat.add_div_right _ (by omega)
    rw [f64_bin, f64_least, rval64 _ (by omega), e1, e2]
    obtain ⟨q, hq⟩ : ∃ q, R / 4503599627370496 = q + 1 := ⟨R / 4503599627370496 - 1, by omega⟩
    rw [hq]
    generalize 4503599627370496 + R % 4503599627370496 = m
    obtain ⟨c, hc⟩ : ∃ c, c = 52 := ⟨_, rfl⟩
    have e3 : (4503599627370496 : Nat) = 2 ^ c := by rw [hc]
    rw [e3]
    simp only [Nat.add_sub_cancel]
    rw [Nat.mul_assoc, Nat.mul_assoc, ← Nat.pow_add, ← Nat.pow_add]
    refine congrArg (fun z => m * 2 ^ z) ?_
    omega

theorem quot_gen (m n k d : Nat) (i j : Int) (hn0 : n ≠ 0) (hk : d + n.log2 - m.log2 = k) (h4 : 2 ^ k = 4 * n) :
    (Ieee.Datum.number false m i).quotient d (.number false n j) = some (.number false (m * 8) (i - j - (k : Int) - 1)) := by
  have hnp : 0 < n := Nat.pos_of_ne_zero hn0
  have e0 : m <<< k = m * 4 * n := by rw [Nat.shiftLeft_eq, h4, Nat.mul_assoc]
  have e1 : 2 * (m * 4) + (0 != 0 : Bool).toNat = m * 8 := by
    have : (0 != 0 : Bool).toNat = 0 := rfl
    omega
  simp only [Ieee.Datum.quotient, if_neg hn0, Bool.xor_false]
  rw [hk, e0, Nat.mul_div_cancel _ hnp, Nat.mul_mod_left, e1]

theorem sig_log2 (r : Nat) (h : r < 4503599627370496) : (4503599627370496 + r).log2 = 52 := by
  have h3 : 52 ≤ (4503599627370496 + r).log2 := (Nat.le_log2 (by omega)).2 (by omega)
  have h4 := (log2_le_of_lt (show 4503599627370496 + r < 2 ^ (52 + 1) by omega)).resolve_left (by omega)
  omega

theorem word_false (f : Ieee.Format) (r : Nat) : f.word false r = r := by unfold Ieee.Format.word; rw [if_neg (by decide)]
theorem half_nearest (R : Nat) (h1 : 9007199254740992 ≤ R) (h2 : R < 9218868437227405312) (p : Int) (hp : p = -1074 + ((R / 4503599627370496 - 1 : Nat) : Int) - 4) :
    FloatKind.f64.format.nearest false ((4503599627370496 + R % 4503599627370496) * 8) p = R - 4503599627370496 := by
  rw [nearest_rung FloatKind.f64.format false _ _ (R - 4503599627370496) (by rw [f64_inf]; omega)]
  · exact word_false _ _
  · have e1 : (R - 4503599627370496) % 4503599627370496 = R % 4503599627370496 := by omega
    have e2 : (R - 4503599627370496) / 4503599627370496 = R / 4503599627370496 - 1 := by omega
    rw [f64_bin, f64_least, rval64 _ (by omega), e1, e2]
    obtain ⟨q, hq⟩ : ∃ q, R / 4503599627370496 = q + 2 := ⟨R / 4503599627370496 - 2, by omega⟩
    rw [hq] at hp ⊢
    generalize 4503599627370496 + R % 4503599627370496 = m
    rw [show m * 8 = m * 2 ^ 3 by omega, Nat.mul_assoc, Nat.mul_assoc, ← Nat.pow_add, ← Nat.pow_add]
    refine congrArg (fun z => m * 2 ^ z) ?_
    omega

theorem half_quot (r : Nat) (h : r < 4503599627370496) (i : Int) : (Ieee.Datum.number false (4503599627370496 + r) i).quotient 54 (.number false 4503599627370496 (-51)) = some (.number false ((4503599627370496 + r) * 8) (i - -51 - ((54 : Nat) : Int) - 1)) := by
  have hlit : (4503599627370496 + 0).log2 = 52 := sig_log2 0 (by omega)
  rw [Nat.add_zero] at hlit
  exact quot_gen (4503599627370496 + r) 4503599627370496 54 54 i (-51) (by omega) (by rw [sig_log2 _ h, hlit]) (by omega)

theorem div_unfold (R Y : Nat) : FloatKind.f64.format.div R Y = ((FloatKind.f64.decode R).quotient 54 (FloatKind.f64.decode Y)).map FloatKind.f64.format.write := rfl

/-- HALF A NUMBER. -/
theorem div_two (R : Nat) (h1 : 9007199254740992 ≤ R) (h2 : R < 9218868437227405312) : cop .quo .f64 (some R) (some 4611686018427387904) = some (R - 4503599627370496) := by
  have hd := read64 R (by omega) h2
  have h2d : FloatKind.f64.decode 4611686018427387904 = .number false 4503599627370496 (-51) := by decide
  have hmod := Nat.mod_lt R (show 0 < 4503599627370496 by omega)
  have hq := half_quot (R % 4503599627370496) hmod (-1074 + ((R / 4503599627370496 - 1 : Nat) : Int))
  have hw := half_nearest R h1 h2 (-1074 + ((R / 4503599627370496 - 1 : Nat) : Int) - -51 - ((54 : Nat) : Int) - 1) (by omega)
  have hu := div_unfold R 4611686018427387904
  rw [hd, h2d, hq, Option.map_some] at hu
  exact hu.trans (congrArg some hw)

/-- positive numbers compare as their words -/
theorem order_pos {R C : Nat} (hR : R < 9218868437227405312) (hC : C < 9218868437227405312) : FloatKind.f64.format.order R C = some (compare R C) := by
  rw [order_sr .f64 R C (by rw [f64_sign]; omega) (by rw [f64_sign]; omega) (cn64 hR) (cn64 hC)]
  unfold sr
  rw [f64_sign, if_neg (by omega), if_neg (by omega), Nat.mod_eq_of_lt (by omega), Nat.mod_eq_of_lt (by omega)]
  congr 1
  rcases Nat.lt_trichotomy R C with h | h | h
  · rw [Nat.compare_eq_lt.2 h, Int.compare_eq_lt.2 (by omega)]
  · subst h; simp
  · rw [Nat.compare_eq_gt.2 h, Int.compare_eq_gt.2 (by omega)]
theorem lss_pos {R C : Nat} (hR : R < 9218868437227405312) (hC : C < 9218868437227405312) : (FloatKind.f64.format.order R C == some .lt) = decide (R < C) := by
  rw [order_pos hR hC, Bool.eq_iff_iff]; simp [Nat.compare_eq_lt]
theorem geq_pos {R C : Nat} (hR : R < 9218868437227405312) (hC : C < 9218868437227405312) : (FloatKind.f64.format.order R C == some .gt || FloatKind.f64.format.order R C == some .eq) = decide (C ≤ R) := by
  rw [order_pos hR hC, Bool.eq_iff_iff]; simp [Nat.compare_eq_gt]; omega

/-- a small integer, as a 64-bit number -/
def fi (n : Int) : Nat := FloatKind.f64.nearest n
theorem fi_step : ∀ j : Fin 400, cop .sub .f64 (some (fi ((j.val : Int) - 199))) (some 4607182418800017408) = some (fi ((j.val : Int) - 200)) ∧ cop .add .f64 (some (fi ((j.val : Int) - 200))) (some 4607182418800017408) = some (fi ((j.val : Int) - 199)) := by
  decide +kernel
theorem fi_pred (n : Int) (h1 : -199 ≤ n) (h2 : n ≤ 200) : cop .sub .f64 (some (fi n)) (some 4607182418800017408) = some (fi (n - 1)) := by
  have := (fi_step ⟨(n + 199).toNat, by omega⟩).1
  rw [show (((n + 199).toNat : Nat) : Int) - 199 = n by omega, show (((n + 199).toNat : Nat) : Int) - 200 = n - 1 by omega] at this
  exact this
theorem fi_succ (n : Int) (h1 : -200 ≤ n) (h2 : n ≤ 199) : cop .add .f64 (some (fi n)) (some 4607182418800017408) = some (fi (n + 1)) := by
  have := (fi_step ⟨(n + 200).toNat, by omega⟩).2
  rw [show (((n + 200).toNat : Nat) : Int) - 199 = n + 1 by omega, show (((n + 200).toNat : Nat) : Int) - 200 = n by omega] at this
  exact this
theorem fi_bd : ∀ j : Fin 401, fi ((j.val : Int) - 200) < 18446744073709551616 ∧ cn .f64 (fi ((j.val : Int) - 200)) = some (fi ((j.val : Int) - 200)) := by decide +kernel

/-! the logarithm -/
def logBase : Int := 4604930618986332160
/-- what is left of a number when it is doubled or halved till it lies from 0.75 to 1.5 -/
def logX (R : Nat) : Nat := (logBase + ((R : Int) - logBase) % 4503599627370496).toNat
/-- how often it has been halved -/
def logE (R : Nat) : Int := ((R : Int) - logBase) / 4503599627370496

/-- the sum over k = 25, 23, .., told from the end: 'polyQ u j' behind j rounds -/
def polyQ (u : Option Nat) : Nat → Option Nat
  | 0 => some 0
  | j + 1 => cop .add .f64 (cop .quo .f64 (some 4607182418800017408) (some (fi (25 - 2 * (j : Int))))) (cop .mul .f64 u (polyQ u j))
/-- l, from x and e -/
def logL (x e : Option Nat) : Option Nat :=
  cop .add .f64 (cop .mul .f64 (some 4611686018427387904) (cop .mul .f64 (cop .quo .f64 (cop .sub .f64 x (some 4607182418800017408)) (cop .add .f64 x (some 4607182418800017408)))
      (polyQ (cop .mul .f64 (cop .quo .f64 (cop .sub .f64 x (some 4607182418800017408)) (cop .add .f64 x (some 4607182418800017408))) (cop .quo .f64 (cop .sub .f64 x (some 4607182418800017408)) (cop .add .f64 x (some 4607182418800017408)))) 13)))
    (cop .mul .f64 e (some 4604418534313441775))
/-- the natural logarithm of a number greater than 0, as the program and the reference reckon it -/
def logC (R : Nat) : Option Nat := logL (some (logX R)) (some (fi (logE R)))

theorem fi_zero : fi 0 = 0 := by decide
theorem fi_25 : fi 25 = 4627730092099895296 := by decide
theorem fi_tab : ∀ j : Fin 13, cop .sub .f64 (some (fi (25 - 2 * (j.val : Int)))) (some 4611686018427387904) = some (fi (25 - 2 * ((j.val + 1 : Nat) : Int))) ∧
    (FloatKind.f64.format.order (fi (25 - 2 * (j.val : Int))) 4607182418800017408 == some .gt || FloatKind.f64.format.order (fi (25 - 2 * (j.val : Int))) 4607182418800017408 == some .eq) = true := by decide +kernel
theorem fi_end : (FloatKind.f64.format.order (fi (25 - 2 * ((13 : Nat) : Int))) 4607182418800017408 == some .gt || FloatKind.f64.format.order (fi (25 - 2 * ((13 : Nat) : Int))) 4607182418800017408 == some .eq) = false := by decide +kernel
theorem fi_cn (n : Int) (h1 : -200 ≤ n) (h2 : n ≤ 200) : cn .f64 (fi n) = some (fi n) := by
  have := (fi_bd ⟨(n + 200).toNat, by omega⟩).2
  rw [show (((n + 200).toNat : Nat) : Int) - 200 = n by omega] at this
  exact this
theorem one_cn : cn .f64 4607182418800017408 = some 4607182418800017408 := by decide
theorem two_cn : cn .f64 4611686018427387904 = some 4611686018427387904 := by decide
theorem ln2_cn : cn .f64 4604418534313441775 = some 4604418534313441775 := by decide

/-- what the loops keep: 'X, doubled or halved, comes from R; n: how often' -/
def LogRel (R X : Nat) (n : Int) : Prop := 3936146074321813504 ≤ X ∧ X < 5183643171103440896 ∧ ((X : Int) - logBase) / 4503599627370496 + n = logE R ∧ ((X : Int) - logBase) % 4503599627370496 = ((R : Int) - logBase) % 4503599627370496 ∧ -150 ≤ n ∧ n ≤ 130
theorem LogRel.start {R : Nat} (h1 : 3936146074321813504 ≤ R) (h2 : R < 5183643171103440896) : LogRel R R 0 := ⟨h1, h2, by unfold logE; omega, rfl, by omega, by omega⟩
theorem LogRel.twice {R X Z : Nat} {n : Int} (hR1 : 3936146074321813504 ≤ R) (hR2 : R < 5183643171103440896) (h : LogRel R X n) (hx : X < 4604930618986332160) (hZ : Z = X + 4503599627370496) : LogRel R Z (n - 1) := by
  unfold LogRel logE logBase at *; omega
theorem LogRel.half {R X Z : Nat} {n : Int} (hR1 : 3936146074321813504 ≤ R) (hR2 : R < 5183643171103440896) (h : LogRel R X n) (hx : 4609434218613702656 ≤ X) (hZ : X = Z + 4503599627370496) : LogRel R Z (n + 1) := by
  unfold LogRel logE logBase at *; omega
theorem LogRel.end {R X : Nat} {n : Int} (h : LogRel R X n) (h1 : 4604930618986332160 ≤ X) (h2 : X < 4609434218613702656) : X = logX R ∧ n = logE R := by
  unfold LogRel logE logX logBase at *; omega
theorem div_two' (X Z : Nat) (h1 : 9007199254740992 ≤ X) (h2 : X < 9218868437227405312) (hZ : X = Z + 4503599627370496) : cop .quo .f64 (some X) (some 4611686018427387904) = some Z := by
  rw [div_two X h1 h2]
  refine congrArg some ?_
  omega
theorem exists_half (Y : Nat) (h : 4503599627370496 ≤ Y) : ∃ Z, Y = Z + 4503599627370496 := ⟨Y - 4503599627370496, by omega⟩
theorem mul_two' (X Z : Nat) (h1 : 4503599627370496 ≤ X) (h2 : X + 4503599627370496 < 9218868437227405312) (hZ : Z = X + 4503599627370496) : cop .mul .f64 (some X) (some 4611686018427387904) = some Z := by
  rw [mul_two X h1 h2, hZ]
/-- a float in a slot -/
def bitsOf : Value → Nat | .float _ b => b | _ => 0
/-- how many times it can be doubled -/
def upLeft (v : Value) : Nat := 1100 - bitsOf v / 4503599627370496

/-- what is left of the rounds over k = 25, 23, ..: told by the word of k -/
def kLeft (v : Value) : Nat := if bitsOf v < 9223372036854775808 then bitsOf v + 1 else 0
theorem k_tab : ∀ j : Fin 13, (fi (25 - 2 * ((j.val + 1 : Nat) : Int)) < fi (25 - 2 * (j.val : Int)) ∨ 9223372036854775808 ≤ fi (25 - 2 * ((j.val + 1 : Nat) : Int))) ∧ fi (25 - 2 * (j.val : Int)) < 9223372036854775808 ∧ cn .f64 (fi (25 - 2 * (j.val : Int))) = some (fi (25 - 2 * (j.val : Int))) := by decide +kernel
theorem k_facts (j kk : Nat) (hj : j < 13) (hk : kk = fi (25 - 2 * (j : Int))) :
    (FloatKind.f64.format.order kk 4607182418800017408 == some .gt || FloatKind.f64.format.order kk 4607182418800017408 == some .eq) = true ∧
    cop .sub .f64 (some kk) (some 4611686018427387904) = some (fi (25 - 2 * ((j + 1 : Nat) : Int))) ∧
    cn .f64 kk = some kk ∧ kLeft (.float .f64 (fi (25 - 2 * ((j + 1 : Nat) : Int)))) < kLeft (.float .f64 (fi (25 - 2 * (j : Int)))) := by
  subst hk
  have h1 := fi_tab ⟨j, hj⟩
  obtain ⟨h2, h3, h4⟩ := k_tab ⟨j, hj⟩
  refine ⟨h1.2, h1.1, h4, ?_⟩
  dsimp only at h2 h3
  have e : ∀ v, kLeft (.float .f64 v) = if v < 9223372036854775808 then v + 1 else 0 := fun _ => rfl
  rw [e, e, if_pos h3]
  split <;> omega

theorem fi_word (n : Int) : floatOfInt .f64 n = fi n := rfl
/-- the integer k of the reference's rounds: 25, 23, .. -/
theorem kint_facts (j : Nat) (hj : j < 13) : cn .f64 (fi (25 - 2 * (j : Int))) = some (fi (25 - 2 * (j : Int))) := (k_tab ⟨j, hj⟩).2.2
end Go.Proofs.YtkemghecglbleaaGreatDoor
