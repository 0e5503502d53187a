/- Plain laws of floating-point numbers: how they compare: as the integers that number them. No condition. -/
import Derived.Test.YticeapacffgikaaGreatDoorMag
namespace Go.Proofs.YticeapacffgikaaGreatDoor
set_option maxRecDepth 100000

/-- what a rung stands for, in units of the least number -/
def rval (B r : Nat) : Nat := if r < B then r else (B + r % B) * 2 ^ (r / B - 1)

theorem rval_succ (B r : Nat) (hB : 0 < B) : rval B r < rval B (r + 1) := by
  unfold rval
  by_cases h1 : r + 1 < B
  · rw [if_pos (by omega), if_pos h1]; omega
  · by_cases h2 : r < B
    · have e : r + 1 = B := by omega
      rw [if_pos h2, if_neg h1, e, Nat.mod_self, Nat.div_self hB]
      simp; omega
    · rw [if_neg h2, if_neg h1]
      have hd : 1 ≤ r / B := (Nat.le_div_iff_mul_le hB).2 (by omega)
      have hm := Nat.mod_lt r hB
      by_cases h3 : r % B + 1 = B
      · have hr : B * (r / B) + r % B = r := Nat.div_add_mod r B
        have e : r + 1 = B * (r / B + 1) := by rw [Nat.mul_add, Nat.mul_one]; omega
        rw [e, Nat.mul_mod_right, Nat.mul_div_cancel_left _ hB]
        have e2 : r / B + 1 - 1 = (r / B - 1) + 1 := by omega
        rw [e2, Nat.pow_succ, Nat.add_zero, ← Nat.mul_assoc, Nat.mul_right_comm]
        exact Nat.mul_lt_mul_of_pos_right (by omega) (Nat.two_pow_pos _)
      · have hr : B * (r / B) + r % B = r := Nat.div_add_mod r B
        have e : r + 1 = (r % B + 1) + B * (r / B) := by omega
        have e1 : (r + 1) % B = r % B + 1 := by
          rw [e, Nat.add_mul_mod_self_left, Nat.mod_eq_of_lt (by omega)]
        have e2 : (r + 1) / B = r / B := by
          rw [e, Nat.add_mul_div_left _ _ hB, Nat.div_eq_of_lt (by omega), Nat.zero_add]
        rw [e1, e2]
        exact Nat.mul_lt_mul_of_pos_right (by omega) (Nat.two_pow_pos _)

theorem rval_lt (B : Nat) (hB : 0 < B) {r s : Nat} (h : r < s) : rval B r < rval B s := by
  induction s with
  | zero => omega
  | succ s ih =>
    have := rval_succ B s hB
    rcases Nat.lt_or_eq_of_le (Nat.le_of_lt_succ h) with h' | h'
    · have := ih h'; omega
    · subst h'; exact this

theorem rval_zero (B : Nat) (hB : 0 < B) : rval B 0 = 0 := by unfold rval; rw [if_pos hB]

/-- the number that numbers a float, with its sign -/
def sr (k : FloatKind) (x : Nat) : Int := if k.format.signWeight ≤ x then -((x % k.format.signWeight : Nat) : Int) else ((x % k.format.signWeight : Nat) : Int)
def sgn (k : FloatKind) (x : Nat) : Bool := decide (k.format.signWeight ≤ x)
/-- what it stands for, in units of the least number -/
def sv (k : FloatKind) (x : Nat) : Int := if k.format.signWeight ≤ x then -((rval k.format.binade (x % k.format.signWeight) : Nat) : Int) else ((rval k.format.binade (x % k.format.signWeight) : Nat) : Int)

theorem quot_sgn (k : FloatKind) (x : Nat) (hx : x < 2 * k.format.signWeight) : (x / k.format.signWeight % 2 == 1) = sgn k x := by
  have hp : 0 < k.format.signWeight := Nat.two_pow_pos _
  unfold sgn
  by_cases h : k.format.signWeight ≤ x
  · have h1 : x / k.format.signWeight = 1 := Nat.div_eq_of_lt_le (by omega) (by omega)
    simp [h, h1]
  · have h1 : x / k.format.signWeight = 0 := Nat.div_eq_of_lt (by omega)
    simp [h, h1]

theorem read_num (k : FloatKind) (x : Nat) (hx : x < 2 * k.format.signWeight) (hr : x % k.format.signWeight < k.format.infRung) :
    ∃ m e, k.decode x = .number (sgn k x) m e ∧ k.format.leastPlace ≤ e ∧ m * 2 ^ (e - k.format.leastPlace).toNat = rval k.format.binade (x % k.format.signWeight) := by
  have hs := quot_sgn k x hx
  unfold FloatKind.decode Ieee.Format.read
  dsimp only
  rw [hs]
  generalize x % k.format.signWeight = r at hr
  unfold rval
  split
  · exact ⟨_, _, rfl, Int.le_refl _, by simp⟩
  · refine ⟨_, _, rfl, by omega, ?_⟩
    congr 2
    omega

theorem read_inf (k : FloatKind) (x : Nat) (hx : x < 2 * k.format.signWeight) (hr : x % k.format.signWeight = k.format.infRung) : k.decode x = .infinity (sgn k x) := by
  have hs := quot_sgn k x hx
  have hb : k.format.binade ≤ k.format.infRung := by cases k <;> decide
  unfold FloatKind.decode Ieee.Format.read
  dsimp only
  rw [hs, hr, if_neg (by omega), if_neg (by omega), if_pos rfl]

theorem cn_of_le (k : FloatKind) (x : Nat) (h : x % k.format.signWeight ≤ k.format.infRung) : cn k x = some x := by
  unfold cn
  rw [read_isNaN, if_neg]
  simpa using h
theorem le_of_cn {k : FloatKind} {x v : Nat} (h : cn k x = some v) : x % k.format.signWeight ≤ k.format.infRung := by
  unfold cn at h
  rw [read_isNaN] at h
  split at h
  · cases h
  · rename_i h'; simpa using h'

theorem compare_mul (a b : Int) (c : Nat) (hc : 0 < c) : compare (a * c) (b * c) = compare a b := by
  have hc' : (0 : Int) < c := by omega
  rcases Int.lt_trichotomy a b with h | h | h
  · rw [Int.compare_eq_lt.2 h, Int.compare_eq_lt.2 (Int.mul_lt_mul_of_pos_right h hc')]
  · subst h; simp
  · rw [Int.compare_eq_gt.2 h, Int.compare_eq_gt.2 (Int.mul_lt_mul_of_pos_right h hc')]

theorem signed_eq (s : Bool) (m a : Nat) : Ieee.signed s m a = if s then -((m * 2 ^ a : Nat) : Int) else ((m * 2 ^ a : Nat) : Int) := by
  unfold Ieee.signed; simp only [Nat.shiftLeft_eq]

theorem sv_lt_iff (k : FloatKind) (x y : Nat) : sv k x < sv k y ↔ sr k x < sr k y := by
  have hB : 0 < k.format.binade := Nat.two_pow_pos _
  unfold sv sr
  generalize x % k.format.signWeight = r
  generalize y % k.format.signWeight = s
  have h0 := rval_zero k.format.binade hB
  have hr : 0 < r → 0 < rval k.format.binade r := fun h => by have := rval_lt k.format.binade hB h; omega
  have hs : 0 < s → 0 < rval k.format.binade s := fun h => by have := rval_lt k.format.binade hB h; omega
  have hr0 : r = 0 → rval k.format.binade r = 0 := fun h => by rw [h, h0]
  have hs0 : s = 0 → rval k.format.binade s = 0 := fun h => by rw [h, h0]
  have a1 : r < s → rval k.format.binade r < rval k.format.binade s := rval_lt _ hB
  have a2 : s < r → rval k.format.binade s < rval k.format.binade r := rval_lt _ hB
  have a3 : r = s → rval k.format.binade r = rval k.format.binade s := fun h => by rw [h]
  generalize rval k.format.binade r = R at *
  generalize rval k.format.binade s = S at *
  have t := Nat.lt_trichotomy r s
  split <;> split <;> (constructor <;> intro h <;> (by_cases z1 : r = 0 <;> by_cases z2 : s = 0 <;> rcases t with t | t | t <;> simp_all <;> omega))

theorem compare_sv (k : FloatKind) (x y : Nat) : compare (sv k x) (sv k y) = compare (sr k x) (sr k y) := by
  have h1 := sv_lt_iff k x y
  have h2 := sv_lt_iff k y x
  rcases Int.lt_trichotomy (sr k x) (sr k y) with h | h | h
  · rw [Int.compare_eq_lt.2 h, Int.compare_eq_lt.2 (h1.2 h)]
  · have : sv k x = sv k y := by
      have a : ¬ sv k x < sv k y := fun q => by have := h1.1 q; omega
      have b : ¬ sv k y < sv k x := fun q => by have := h2.1 q; omega
      omega
    rw [this, h]; simp
  · rw [Int.compare_eq_gt.2 h, Int.compare_eq_gt.2 (h2.2 h)]

/-- FLOATS COMPARE AS THE INTEGERS THAT NUMBER THEM. -/
theorem order_sr (k : FloatKind) (x y : Nat) (hx : x < 2 * k.format.signWeight) (hy : y < 2 * k.format.signWeight) (cx : cn k x = some x) (cy : cn k y = some y) :
    k.format.order x y = some (compare (sr k x) (sr k y)) := by
  have rx := le_of_cn cx
  have ry := le_of_cn cy
  have hi : 0 < k.format.infRung := by cases k <;> decide
  unfold Ieee.Format.order
  show (k.decode x).order (k.decode y) = _
  rcases Nat.lt_or_eq_of_le rx with rx | rx <;> rcases Nat.lt_or_eq_of_le ry with ry | ry
  · obtain ⟨m, i, ex, li, vx⟩ := read_num k x hx rx
    obtain ⟨n, j, ey, lj, vy⟩ := read_num k y hy ry
    rw [ex, ey]
    simp only [Ieee.Datum.order]
    rw [← compare_sv, ← compare_mul _ _ (2 ^ (min i j - k.format.leastPlace).toNat) (Nat.two_pow_pos _)]
    have key : ∀ (x m : Nat) (i : Int), k.format.leastPlace ≤ min i j → min i j ≤ i ∨ True → m * 2 ^ (i - k.format.leastPlace).toNat = rval k.format.binade (x % k.format.signWeight) → ∀ b : Int, k.format.leastPlace ≤ b → b ≤ i →
        Ieee.signed (sgn k x) m (i - b).toNat * ((2 ^ (b - k.format.leastPlace).toNat : Nat) : Int) = sv k x := by
      intro x m i _ _ hv b hb hbi
      have e : m * 2 ^ (i - b).toNat * 2 ^ (b - k.format.leastPlace).toNat = rval k.format.binade (x % k.format.signWeight) := by
        rw [← hv, Nat.mul_assoc, ← Nat.pow_add]
        congr 2
        omega
      rw [signed_eq]
      unfold sgn sv
      by_cases h : k.format.signWeight ≤ x
      · simp only [h, decide_true, if_true]
        rw [Int.neg_mul, ← Int.natCast_mul, e]
      · simp only [h, decide_false, Bool.false_eq_true, if_false]
        rw [← Int.natCast_mul, e]
    rw [key x m i (by omega) (.inr trivial) vx _ (by omega) (by omega)]
    rw [key y n j (by omega) (.inr trivial) vy _ (by omega) (by omega)]
  · obtain ⟨m, i, ex, li, vx⟩ := read_num k x hx rx
    rw [ex, read_inf k y hy ry]
    simp only [Ieee.Datum.order]
    unfold sr sgn
    rw [ry]
    by_cases h : k.format.signWeight ≤ y
    · simp only [h, decide_true, if_true]
      congr 1; symm; rw [Int.compare_eq_gt]; split <;> omega
    · simp only [h, decide_false, Bool.false_eq_true, if_false]
      congr 1; symm; rw [Int.compare_eq_lt]; split <;> omega
  · obtain ⟨m, i, ey, li, vy⟩ := read_num k y hy ry
    rw [ey, read_inf k x hx rx]
    simp only [Ieee.Datum.order]
    unfold sr sgn
    rw [rx]
    by_cases h : k.format.signWeight ≤ x
    · simp only [h, decide_true, if_true]
      congr 1; symm; rw [Int.compare_eq_lt]; split <;> omega
    · simp only [h, decide_false, Bool.false_eq_true, if_false]
      congr 1; symm; rw [Int.compare_eq_gt]; split <;> omega
  · rw [read_inf k x hx rx, read_inf k y hy ry]
    simp only [Ieee.Datum.order]
    unfold sr sgn
    rw [rx, ry]
    by_cases h : k.format.signWeight ≤ x <;> by_cases h' : k.format.signWeight ≤ y
    · simp [h, h']
    · simp only [h, h', decide_true, decide_false, if_true, if_false]
      rw [Int.compare_eq_lt.2 (show -(k.format.infRung : Int) < k.format.infRung by omega)]; rfl
    · simp only [h, h', decide_true, decide_false, if_true, if_false]
      rw [Int.compare_eq_gt.2 (show -(k.format.infRung : Int) < k.format.infRung by omega)]; rfl
    · simp [h, h']

/-- equal, and of one sign: the same word -/
theorem same_word (k : FloatKind) (x y : Nat) (hx : x < 2 * k.format.signWeight) (hy : y < 2 * k.format.signWeight) (h : sr k x = sr k y) (hs : sgn k x = sgn k y) : x = y := by
  have hp : 0 < k.format.signWeight := Nat.two_pow_pos _
  have split : ∀ z, z < 2 * k.format.signWeight → z = if k.format.signWeight ≤ z then k.format.signWeight + z % k.format.signWeight else z % k.format.signWeight := by
    intro z hz
    split
    · rename_i h
      rw [Nat.mod_eq_sub_mod h, Nat.mod_eq_of_lt (by omega)]; omega
    · exact (Nat.mod_eq_of_lt (by omega)).symm
  have e1 := split x hx
  have e2 := split y hy
  unfold sr at h
  unfold sgn at hs
  rw [decide_eq_decide] at hs
  by_cases c : k.format.signWeight ≤ x
  · have c' := hs.1 c
    rw [if_pos c] at h e1; rw [if_pos c'] at h e2
    omega
  · have c' : ¬ k.format.signWeight ≤ y := fun q => c (hs.2 q)
    rw [if_neg c] at h e1; rw [if_neg c'] at h e2
    omega
end Go.Proofs.YticeapacffgikaaGreatDoor
