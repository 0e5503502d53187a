/- Plain laws: whole numbers that fit a significand are reckoned exactly. No condition. -/
import Derived.Test.YtkemghecglbleaaGreatDoorXw
import Derived.Test.YtkemghecglbleaaGreatDoorTn
import Derived.Test.YtkemghecglbleaaGreatDoorRt

namespace Go.Proofs.YtkemghecglbleaaGreatDoor
set_option maxRecDepth 100000
set_option linter.unusedVariables false

/-- the whole numbers below it are numbers of the kind -/
def lim : FloatKind → Nat | .f32 => 16777216 | .f64 => 9007199254740992
theorem lim_bin (k : FloatKind) : lim k = 2 * k.format.binade := by cases k <;> rfl
def iw (k : FloatKind) (s : Bool) (N : Nat) : Nat := k.encode (.number s N 0)
/-- a datum worth a whole number -/
def Va (d : Ieee.Datum) (s : Bool) (N : Nat) : Prop := ∃ (m : Nat) (e : Int) (K : Nat), d = .number s m e ∧ 0 ≤ e + K ∧ m * 2 ^ (e + K).toNat = N * 2 ^ K
theorem up_eq {m N K : Nat} {e : Int} (h : 0 ≤ e + K) (hv : m * 2 ^ (e + K).toNat = N * 2 ^ K) {L : Nat} (hL : K ≤ L) : 0 ≤ e + L ∧ m * 2 ^ (e + L).toNat = N * 2 ^ L := by
  refine ⟨by omega, ?_⟩
  rw [show (e + (L : Int)).toNat = (e + K).toNat + (L - K) by omega, Nat.pow_add, ← Nat.mul_assoc, hv, Nat.mul_assoc, ← Nat.pow_add, show K + (L - K) = L by omega]
theorem rung_ex (fb m a : Nat) (hm : m < 2 ^ (fb + 1)) : ∃ R, R < (a + 2) * 2 ^ fb ∧ rval (2 ^ fb) R = m * 2 ^ a := by
  have hB : 0 < 2 ^ fb := Nat.two_pow_pos _
  have hb1 : (a + 2) * 2 ^ fb = a * 2 ^ fb + 2 * 2 ^ fb := Nat.add_mul _ _ _
  by_cases h0 : m = 0
  · subst h0; exact ⟨0, by omega, by rw [rval_zero _ hB, Nat.zero_mul]⟩
  have l1 := Nat.log2_self_le h0
  have l2 := log2_lt m
  have l3 : m.log2 ≤ fb := (log2_le_of_lt hm).resolve_left h0
  by_cases hs : m.log2 + a < fb
  · have hlt : m * 2 ^ a < 2 ^ fb := by
      have := Nat.mul_lt_mul_of_pos_right l2 (Nat.two_pow_pos a)
      rw [← Nat.pow_add] at this
      exact Nat.lt_of_lt_of_le this (Nat.pow_le_pow_right (by omega) (by omega))
    refine ⟨m * 2 ^ a, by omega, ?_⟩
    unfold rval
    rw [if_pos hlt]
  · obtain ⟨q, hq⟩ : ∃ q, q = m * 2 ^ (fb - m.log2) := ⟨_, rfl⟩
    have q1 : 2 ^ fb ≤ q := by
      rw [hq]
      have := Nat.mul_le_mul_right (2 ^ (fb - m.log2)) l1
      rw [← Nat.pow_add, show m.log2 + (fb - m.log2) = fb by omega] at this
      exact this
    have q2 : q < 2 * 2 ^ fb := by
      rw [hq]
      have := Nat.mul_lt_mul_of_pos_right l2 (Nat.two_pow_pos (fb - m.log2))
      rw [← Nat.pow_add, show m.log2 + 1 + (fb - m.log2) = fb + 1 by omega, Nat.pow_succ] at this
      omega
    obtain ⟨s, hs'⟩ : ∃ s, s + 2 ^ fb = q := ⟨q - 2 ^ fb, by omega⟩
    have hq3 : s < 2 ^ fb := by omega
    obtain ⟨e, he⟩ : ∃ e, e + fb = m.log2 + a := ⟨m.log2 + a - fb, by omega⟩
    have hep : fb - m.log2 + e = a := by omega
    have hea : e ≤ a := by omega
    clear hs l1 l2
    generalize hBB : 2 ^ fb = B at *
    have hle : e * B ≤ a * B := Nat.mul_le_mul_right _ hea
    have e0 : (e + 1) * B = e * B + B := by rw [Nat.add_mul, Nat.one_mul]
    refine ⟨(e + 1) * B + s, by omega, ?_⟩
    have e1 : ((e + 1) * B + s) % B = s := by rw [Nat.mul_comm, Nat.mul_add_mod, Nat.mod_eq_of_lt hq3]
    have e2 : ((e + 1) * B + s) / B = e + 1 := by rw [Nat.mul_comm, Nat.mul_add_div (by omega), Nat.div_eq_of_lt hq3, Nat.add_zero]
    unfold rval
    rw [if_neg (by omega), e1, e2, Nat.add_sub_cancel, Nat.add_comm B s, hs', hq, Nat.mul_assoc, ← Nat.pow_add, hep]

/-- what is worth a whole number is written as one word -/
theorem Va_word (k : FloatKind) (s : Bool) (N : Nat) (hN : N < lim k) : ∃ R, R < k.format.infRung ∧ rval k.format.binade R = N * 2 ^ (-k.format.leastPlace).toNat ∧ ∀ d, Va d s N → k.encode d = k.format.word s R := by
  obtain ⟨R, h1, h2⟩ : ∃ R, R < k.format.infRung ∧ rval k.format.binade R = N * 2 ^ (-k.format.leastPlace).toNat := by
    cases k with
    | f32 =>
      obtain ⟨A, hA⟩ : ∃ A, A = 149 := ⟨_, rfl⟩
      obtain ⟨R, h1, h2⟩ := rung_ex 23 N A (by simpa [lim] using hN)
      refine ⟨R, ?_, ?_⟩
      · rw [f32_inf]; rw [hA] at h1; omega
      · rw [f32_bin, f32_least, show (- (-149 : Int)).toNat = A by omega]; exact h2
    | f64 =>
      obtain ⟨A, hA⟩ : ∃ A, A = 1074 := ⟨_, rfl⟩
      obtain ⟨R, h1, h2⟩ := rung_ex 52 N A (by simpa [lim] using hN)
      refine ⟨R, ?_, ?_⟩
      · rw [f64_inf]; rw [hA] at h1; omega
      · rw [f64_bin, f64_least, show (- (-1074 : Int)).toNat = A by omega]; exact h2
  refine ⟨R, h1, h2, ?_⟩
  rintro d ⟨m, e, K, rfl, hk, hv⟩
  show k.format.nearest s m e = _
  have hL0 : k.format.leastPlace ≤ 0 := by cases k <;> decide
  refine nearest_rung k.format s m e R (by omega) ?_
  rw [h2]
  generalize k.format.leastPlace = L at *
  obtain ⟨Q, hQ⟩ : ∃ Q : Nat, Q = K + (-L).toNat := ⟨_, rfl⟩
  obtain ⟨hk2, hv2⟩ := up_eq hk hv (show K ≤ Q by omega)
  obtain ⟨b, hb⟩ : ∃ b, b = min e L := ⟨_, rfl⟩
  rw [← hb]
  have : m * 2 ^ (e - b).toNat * 2 ^ (b + Q).toNat = N * 2 ^ (-L).toNat * 2 ^ (L - b).toNat * 2 ^ (b + Q).toNat := by
    rw [Nat.mul_assoc, ← Nat.pow_add, Nat.mul_assoc, Nat.mul_assoc, ← Nat.pow_add, ← Nat.pow_add, show (e - b).toNat + (b + Q).toNat = (e + Q).toNat by omega, hv2]
    congr 2
    omega
  exact Nat.eq_of_mul_eq_mul_right (Nat.two_pow_pos _) this
theorem Va_self (s : Bool) (N : Nat) : Va (.number s N 0) s N := ⟨N, 0, 0, rfl, by omega, by simp⟩
theorem iw_of {k : FloatKind} {s : Bool} {N : Nat} (hN : N < lim k) {d : Ieee.Datum} (h : Va d s N) : k.encode d = iw k s N := by
  obtain ⟨R, _, _, hw⟩ := Va_word k s N hN
  rw [hw d h]
  exact (hw _ (Va_self s N)).symm
theorem iw_read (k : FloatKind) (s : Bool) (N : Nat) (hN : N < lim k) : Va (k.decode (iw k s N)) s N := by
  obtain ⟨R, h1, h2, hw⟩ := Va_word k s N hN
  rw [show iw k s N = k.format.word s R from hw _ (Va_self s N)]
  obtain ⟨w1, w2, w3⟩ := decode_word k s R (by omega)
  obtain ⟨m, e, hd, hle, hv⟩ := read_num k _ w2 (by rw [w1]; exact h1)
  have hL0 : k.format.leastPlace ≤ 0 := by cases k <;> decide
  rw [w1, h2] at hv
  rw [w3] at hd
  refine ⟨m, e, (-k.format.leastPlace).toNat, hd, by omega, ?_⟩
  rw [← hv]
  congr 2
  omega
theorem iw_lt (k : FloatKind) (s : Bool) (N : Nat) (hN : N < lim k) : iw k s N < 2 * k.format.signWeight := by
  obtain ⟨R, h1, h2, hw⟩ := Va_word k s N hN
  rw [show iw k s N = k.format.word s R from hw _ (Va_self s N)]
  exact (decode_word k s R (by omega)).2.1
theorem iw_cn (k : FloatKind) (s : Bool) (N : Nat) (hN : N < lim k) : cn k (iw k s N) = some (iw k s N) := by
  obtain ⟨m, e, K, hd, _⟩ := iw_read k s N hN
  unfold cn
  rw [hd]; rfl

/-! the operations -/
theorem imul {k : FloatKind} {s t : Bool} {M N : Nat} (hM : M < lim k) (hN : N < lim k) (h : M * N < lim k) : cop .mul k (some (iw k s M)) (some (iw k t N)) = some (iw k (s ^^ t) (M * N)) := by
  obtain ⟨m, i, K, e1, k1, v1⟩ := iw_read k s M hM
  obtain ⟨n, j, L, e2, k2, v2⟩ := iw_read k t N hN
  show ((k.decode _).product (k.decode _)).map k.format.write = _
  rw [e1, e2]
  show some (k.encode (.number (s ^^ t) (m * n) (i + j))) = _
  rw [iw_of h ⟨m * n, i + j, K + L, rfl, by omega, ?_⟩]
  rw [show (i + j + ((K + L : Nat) : Int)).toNat = (i + K).toNat + (j + L).toNat by omega, Nat.pow_add, Nat.pow_add, Nat.mul_mul_mul_comm, v1, v2, Nat.mul_mul_mul_comm]
/-- with its sign -/
def sg (s : Bool) (N : Nat) : Int := if s then -(N : Int) else N
theorem sg_mul (s : Bool) (A P : Nat) : sg s A * (P : Int) = sg s (A * P) := by
  unfold sg
  cases s <;> simp [Int.neg_mul]
theorem signed_sg (s : Bool) (m a : Nat) : Ieee.signed s m a = sg s (m * 2 ^ a) := signed_eq s m a
/-- what two data worth whole numbers are at one place -/
theorem Va_two {a b : Ieee.Datum} {s t : Bool} {M N : Nat} (ha : Va a s M) (hb : Va b t N) : ∃ (m n : Nat) (i j : Int) (A B P Q : Nat), a = .number s m i ∧ b = .number t n j ∧ 0 < P ∧ 0 < Q ∧
    A = m * 2 ^ (i - min i j).toNat ∧ B = n * 2 ^ (j - min i j).toNat ∧ A * P = M * Q ∧ B * P = N * Q ∧ ∃ K : Nat, 0 ≤ min i j + K ∧ P = 2 ^ (min i j + K).toNat ∧ Q = 2 ^ K := by
  obtain ⟨m, i, K, rfl, k1, v1⟩ := ha
  obtain ⟨n, j, L, rfl, k2, v2⟩ := hb
  obtain ⟨H, hH⟩ : ∃ H : Nat, H = K + L := ⟨_, rfl⟩
  obtain ⟨k1, v1⟩ := up_eq k1 v1 (show K ≤ H by omega)
  obtain ⟨k2, v2⟩ := up_eq k2 v2 (show L ≤ H by omega)
  refine ⟨m, n, i, j, _, _, 2 ^ (min i j + H).toNat, 2 ^ H, rfl, rfl, Nat.two_pow_pos _, Nat.two_pow_pos _, rfl, rfl, ?_, ?_, H, by omega, rfl, rfl⟩
  · rw [Nat.mul_assoc, ← Nat.pow_add, ← v1]; congr 2; omega
  · rw [Nat.mul_assoc, ← Nat.pow_add, ← v2]; congr 2; omega
theorem sign_of {t z : Int} {P Q : Nat} (hP : 0 < P) (hQ : 0 < Q) (h : t * P = z * Q) : (t = 0 ↔ z = 0) ∧ (t < 0 ↔ z < 0) ∧ t.natAbs * P = z.natAbs * Q := by
  have hP' : (0 : Int) < P := by omega
  have hQ' : (0 : Int) < Q := by omega
  have key : ∀ (a b : Int) (p q : Nat), (0 : Int) < p → (0 : Int) < q → a * p = b * q → (a < 0 → b < 0) ∧ (0 < a → 0 < b) ∧ (a = 0 → b = 0) := by
    intro a b p q hp hq e
    refine ⟨fun h => ?_, fun h => ?_, fun h => ?_⟩
    · have h1 : a * p < 0 := Int.mul_neg_of_neg_of_pos h hp
      rw [e] at h1
      rcases Int.lt_or_le b 0 with h2 | h2
      · exact h2
      · have := Int.mul_nonneg h2 (Int.le_of_lt hq); omega
    · have h1 : 0 < a * p := Int.mul_pos h hp
      rw [e] at h1
      rcases Int.lt_or_le 0 b with h2 | h2
      · exact h2
      · have := Int.mul_nonpos_of_nonpos_of_nonneg h2 (Int.le_of_lt hq); omega
    · subst h
      rw [Int.zero_mul] at e
      rcases Int.mul_eq_zero.1 e.symm with h | h
      · exact h
      · omega
  obtain ⟨a1, a2, a3⟩ := key t z P Q hP' hQ' h
  obtain ⟨b1, b2, b3⟩ := key z t Q P hQ' hP' h.symm
  refine ⟨⟨a3, b3⟩, ⟨a1, b1⟩, ?_⟩
  have := congrArg Int.natAbs h
  rwa [Int.natAbs_mul, Int.natAbs_mul, Int.natAbs_natCast, Int.natAbs_natCast] at this
def sm (s t : Bool) (z : Int) : Bool := if z = 0 then s && t else decide (z < 0)
theorem Va_sum {a b : Ieee.Datum} {s t : Bool} {M N : Nat} (ha : Va a s M) (hb : Va b t N) : ∃ d, a.sum b = some d ∧ Va d (sm s t (sg s M + sg t N)) (sg s M + sg t N).natAbs := by
  obtain ⟨m, n, i, j, A, B, P, Q, rfl, rfl, hP, hQ, hA, hB, eA, eB, K, hK, hPK, hQK⟩ := Va_two ha hb
  obtain ⟨z, hz⟩ : ∃ z, z = sg s M + sg t N := ⟨_, rfl⟩
  obtain ⟨T, hT⟩ : ∃ T, T = sg s A + sg t B := ⟨_, rfl⟩
  have e : T * P = z * Q := by rw [hT, hz, Int.add_mul, Int.add_mul, sg_mul, sg_mul, sg_mul, sg_mul, eA, eB]
  obtain ⟨c1, c2, c3⟩ := sign_of hP hQ e
  rw [← hz]
  refine ⟨.number (sm s t z) T.natAbs (min i j), ?_, T.natAbs, min i j, K, rfl, hK, ?_⟩
  · simp only [Ieee.Datum.sum]
    rw [signed_sg, signed_sg, ← hA, ← hB, ← hT]
    congr 2
    unfold sm
    by_cases hz0 : z = 0
    · rw [if_pos hz0, if_pos (c1.2 hz0)]
    · rw [if_neg hz0, if_neg (fun q => hz0 (c1.1 q))]
      exact decide_eq_decide.2 c2
  · rw [← hPK, ← hQK]; exact c3
theorem Va_opp {a : Ieee.Datum} {s : Bool} {M : Nat} (h : Va a s M) : Va a.opposite (!s) M := by
  obtain ⟨m, i, K, rfl, k1, v1⟩ := h
  exact ⟨m, i, K, rfl, k1, v1⟩
theorem iadd {k : FloatKind} {s t : Bool} {M N : Nat} (hM : M < lim k) (hN : N < lim k) {z : Int} (hz : sg s M + sg t N = z) (h : z.natAbs < lim k) : cop .add k (some (iw k s M)) (some (iw k t N)) = some (iw k (sm s t z) z.natAbs) := by
  obtain ⟨d, e, hd⟩ := Va_sum (iw_read k s M hM) (iw_read k t N hN)
  rw [hz] at hd
  show ((k.decode _).sum (k.decode _)).map k.format.write = _
  rw [e]
  exact congrArg some (iw_of h hd)
theorem isub {k : FloatKind} {s t : Bool} {M N : Nat} (hM : M < lim k) (hN : N < lim k) {z : Int} (hz : sg s M + sg (!t) N = z) (h : z.natAbs < lim k) : cop .sub k (some (iw k s M)) (some (iw k t N)) = some (iw k (sm s (!t) z) z.natAbs) := by
  obtain ⟨d, e, hd⟩ := Va_sum (iw_read k s M hM) (Va_opp (iw_read k t N hN))
  rw [hz] at hd
  show ((k.decode _).sum (k.decode _).opposite).map k.format.write = _
  rw [e]
  exact congrArg some (iw_of h hd)
theorem icmp {k : FloatKind} {s t : Bool} {M N : Nat} (hM : M < lim k) (hN : N < lim k) : k.format.order (iw k s M) (iw k t N) = some (compare (sg s M) (sg t N)) := by
  obtain ⟨m, n, i, j, A, B, P, Q, e1, e2, hP, hQ, hA, hB, eA, eB, K, hK, hPK, hQK⟩ := Va_two (iw_read k s M hM) (iw_read k t N hN)
  show (k.decode _).order (k.decode _) = _
  rw [e1, e2]
  simp only [Ieee.Datum.order]
  rw [signed_sg, signed_sg, ← hA, ← hB, ← compare_mul (sg s A) (sg t B) P hP, sg_mul, sg_mul, eA, eB, ← sg_mul, ← sg_mul, compare_mul _ _ Q hQ]
theorem iconv {k l : FloatKind} {s : Bool} {N : Nat} (hk : N < lim k) (hl : N < lim l) : isConv k l (iw k s N) (iw l s N) = true := by
  have h := iw_read k s N hk
  have h2 := iw_of hl h
  obtain ⟨m, e, K, hd, _⟩ := h
  rw [hd] at h2
  obtain ⟨m2, e2, K2, hd2, _⟩ := iw_read l s N hl
  unfold isConv
  rw [hd]
  dsimp only
  rw [h2, hd2]
  simp [Ieee.Datum.isInfinity]
theorem iquo_c (m n Q : Nat) (i j : Int) (H : Nat) (hi : 0 ≤ i + H) (hj : 0 ≤ j + H) (hn : n ≠ 0) (hQ : Q < 9007199254740992) (e : m * 2 ^ (i + H).toNat = Q * (n * 2 ^ (j + H).toNat)) :
    ∃ c, c * n = m * 2 ^ (54 + n.log2 - m.log2) := by
  rcases Int.le_total i j with h | h
  · refine ⟨Q * 2 ^ (j - i).toNat * 2 ^ (54 + n.log2 - m.log2), ?_⟩
    have : m = Q * n * 2 ^ (j - i).toNat := by
      apply Nat.eq_of_mul_eq_mul_right (Nat.two_pow_pos (i + H).toNat)
      rw [e, Nat.mul_assoc Q n, Nat.mul_assoc, Nat.mul_assoc, ← Nat.pow_add]
      congr 3; omega
    generalize 2 ^ (54 + n.log2 - m.log2) = X
    rw [this]
    simp only [Nat.mul_assoc, Nat.mul_comm, Nat.mul_left_comm]
  · have e2 : m * 2 ^ (i - j).toNat = Q * n := by
      apply Nat.eq_of_mul_eq_mul_right (Nat.two_pow_pos (j + H).toNat)
      rw [Nat.mul_assoc, ← Nat.pow_add, show (i - j).toNat + (j + H).toNat = (i + H).toNat by omega, e, Nat.mul_assoc]
    by_cases hm : m = 0
    · exact ⟨0, by rw [hm, Nat.zero_mul, Nat.zero_mul]⟩
    · have hl := log2_mul_pow m (i - j).toNat hm
      have q0 : Q ≠ 0 := by
        intro q; rw [q, Nat.zero_mul] at e2
        rcases Nat.mul_eq_zero.1 e2 with h | h
        · exact hm h
        · have := Nat.two_pow_pos (i - j).toNat; omega
      have h1 : Q * n < 2 ^ (53 + n.log2 + 1) := by
        have a1 := log2_lt n
        have a2 : Q < 2 ^ 53 := by simpa using hQ
        have : Q * n < 2 ^ 53 * 2 ^ (n.log2 + 1) := Nat.mul_lt_mul_of_lt_of_le a2 (Nat.le_of_lt a1) (Nat.two_pow_pos _)
        rwa [← Nat.pow_add, ← Nat.add_assoc] at this
      rw [← e2] at h1
      have h2 := (log2_le_of_lt h1).resolve_left (by rw [e2]; exact Nat.mul_ne_zero q0 hn)
      rw [hl] at h2
      obtain ⟨d, hd⟩ : ∃ d, 54 + n.log2 - m.log2 = (i - j).toNat + d := ⟨54 + n.log2 - m.log2 - (i - j).toNat, by omega⟩
      refine ⟨Q * 2 ^ d, ?_⟩
      rw [hd, Nat.pow_add, ← Nat.mul_assoc, e2]
      simp only [Nat.mul_assoc, Nat.mul_comm, Nat.mul_left_comm]
theorem iquo {s t : Bool} {Q N : Nat} (hM : Q * N < lim .f64) (hN : N < lim .f64) (hQ : Q < lim .f64) (h0 : N ≠ 0) : cop .quo .f64 (some (iw .f64 s (Q * N))) (some (iw .f64 t N)) = some (iw .f64 (s ^^ t) Q) := by
  obtain ⟨m, i, K, e1, k1, v1⟩ := iw_read .f64 s (Q * N) hM
  obtain ⟨n, j, L, e2, k2, v2⟩ := iw_read .f64 t N hN
  obtain ⟨H, hH⟩ : ∃ H : Nat, H = K + L := ⟨_, rfl⟩
  obtain ⟨k1, v1⟩ := up_eq k1 v1 (show K ≤ H by omega)
  obtain ⟨k2, v2⟩ := up_eq k2 v2 (show L ≤ H by omega)
  have hn : n ≠ 0 := by
    intro q; rw [q, Nat.zero_mul] at v2
    rcases Nat.mul_eq_zero.1 v2.symm with h | h
    · exact h0 h
    · have := Nat.two_pow_pos H; omega
  have e : m * 2 ^ (i + H).toNat = Q * (n * 2 ^ (j + H).toNat) := by rw [v1, v2, Nat.mul_assoc]
  obtain ⟨c, hc⟩ := iquo_c m n Q i j H k1 k2 hn (by simpa [lim] using hQ) e
  show ((FloatKind.f64.decode _).quotient 54 (FloatKind.f64.decode _)).map FloatKind.f64.format.write = _
  rw [e1, e2]
  simp only [Ieee.Datum.quotient]
  rw [if_neg hn]
  obtain ⟨X, hX⟩ : ∃ X, X = 54 + n.log2 - m.log2 := ⟨_, rfl⟩
  rw [← hX] at hc ⊢
  have d1 : m <<< X / n = c := by rw [Nat.shiftLeft_eq, ← hc]; exact Nat.mul_div_cancel _ (by omega)
  have d2 : (m <<< X % n != 0) = false := by rw [Nat.shiftLeft_eq, ← hc, Nat.mul_mod_left]; rfl
  rw [d1, d2]
  show some (FloatKind.f64.encode _) = _
  obtain ⟨G, hG⟩ : ∃ G : Nat, G = (j + H).toNat + X + 1 := ⟨_, rfl⟩
  have hp : i - j - (X : Int) - 1 + G = i + H := by omega
  refine congrArg some (iw_of hQ ⟨2 * c, _, G, rfl, by rw [hp]; exact k1, ?_⟩)
  rw [hp]
  apply Nat.eq_of_mul_eq_mul_right (show 0 < n by omega)
  have : 2 * c * 2 ^ (i + H).toNat * n = 2 * (c * n) * 2 ^ (i + H).toNat := by simp only [Nat.mul_assoc, Nat.mul_comm, Nat.mul_left_comm]
  rw [this, hc]
  have : 2 * (m * 2 ^ X) * 2 ^ (i + H).toNat = 2 * 2 ^ X * (m * 2 ^ (i + H).toNat) := by simp only [Nat.mul_assoc, Nat.mul_comm, Nat.mul_left_comm]
  rw [this, e, hG, Nat.pow_succ, Nat.pow_add]
  simp only [Nat.mul_assoc, Nat.mul_comm, Nat.mul_left_comm]
theorem neg32 (x : Nat) (hx : x < 4294967296) : Op.negFloat .f32 x = if 2147483648 ≤ x then x - 2147483648 else x + 2147483648 := by
  have e : Op.negFloat .f32 x = x ^^^ 2 ^ 31 := rfl
  rw [e]
  have h1 : (x ^^^ 2 ^ 31) % 2 ^ 31 = x % 2 ^ 31 := by rw [Nat.xor_mod_two_pow, Nat.mod_self, Nat.xor_zero]
  have h2 : (x ^^^ 2 ^ 31) / 2 ^ 31 = x / 2 ^ 31 ^^^ 1 := by rw [Nat.xor_div_two_pow, Nat.div_self (Nat.two_pow_pos _)]
  have h3 := Nat.div_add_mod (x ^^^ 2 ^ 31) (2 ^ 31)
  rw [h1, h2] at h3
  rw [← h3]
  have e31 : (2 : Nat) ^ 31 = 2147483648 := by decide
  rw [e31]
  by_cases h : 2147483648 ≤ x
  · rw [if_pos h, show x / 2147483648 = 1 by omega]
    show 2147483648 * 0 + _ = _
    omega
  · rw [if_neg h, show x / 2147483648 = 0 by omega]
    show 2147483648 * 1 + _ = _
    omega
theorem ineg (s : Bool) (N : Nat) (hN : N < lim .f32) : Op.negFloat .f32 (iw .f32 s N) = iw .f32 (!s) N := by
  obtain ⟨R, h1, h2, hw⟩ := Va_word .f32 s N hN
  obtain ⟨R2, g1, g2, gw⟩ := Va_word .f32 (!s) N hN
  have e1 : iw .f32 s N = FloatKind.f32.format.word s R := hw _ (Va_self s N)
  have e2 : iw .f32 (!s) N = FloatKind.f32.format.word (!s) R2 := gw _ (Va_self (!s) N)
  have hR : R = R2 := by
    have hB : 0 < FloatKind.f32.format.binade := Nat.two_pow_pos _
    rcases Nat.lt_trichotomy R R2 with h | h | h
    · have := rval_lt _ hB h; omega
    · exact h
    · have := rval_lt _ hB h; omega
  rw [f32_inf] at h1
  have wf : FloatKind.f32.format.word false R = R := by unfold Ieee.Format.word; simp
  have wt : FloatKind.f32.format.word true R = 2147483648 + R := by unfold Ieee.Format.word; rw [f32_sign]; simp
  rw [e1, e2, ← hR]
  cases s
  · rw [Bool.not_false, wf, wt, neg32 _ (by omega), if_neg (by omega)]; omega
  · rw [Bool.not_true, wf, wt, neg32 _ (by omega), if_pos (by omega)]; omega
theorem iint (s : Bool) (N : Nat) (hN : N < lim .f32) : floatToIntVal .f32 (iw .f32 s N) .i64 = some (sg s N) := by
  obtain ⟨m, i, K, hd, k1, v1⟩ := iw_read .f32 s N hN
  have hN' : N < 16777216 := hN
  have hc : (FloatKind.f32.decode (iw .f32 s N)).toInt .zero = some (sg s N) := by
    rw [hd]
    simp only [Ieee.Datum.toInt, Ieee.Datum.integral]
    rw [signed_sg, Nat.pow_zero, Nat.mul_one, cut_zero]
    congr 2
    rcases Int.le_total 0 i with h | h
    · rw [show (-i).toNat = 0 by omega, Nat.zero_min, Nat.pow_zero, Nat.div_one, Nat.shiftLeft_eq]
      apply Nat.eq_of_mul_eq_mul_right (Nat.two_pow_pos K)
      rw [← v1, show (i + K).toNat = i.toNat + K by omega, Nat.pow_add, Nat.mul_assoc]
    · rw [show i.toNat = 0 by omega, Nat.shiftLeft_zero]
      have e2 : m = N * 2 ^ (-i).toNat := by
        apply Nat.eq_of_mul_eq_mul_right (Nat.two_pow_pos (i + K).toNat)
        rw [v1, Nat.mul_assoc, ← Nat.pow_add]
        congr 2; omega
      by_cases h0 : N = 0
      · rw [e2, h0, Nat.zero_mul, Nat.zero_div]
      · rw [e2, log2_mul_pow N _ h0, Nat.min_eq_left (by omega), Nat.mul_div_cancel _ (Nat.two_pow_pos _)]
  unfold floatToIntVal
  rw [hc]
  have hr : IntKind.i64.min ≤ sg s N ∧ sg s N ≤ IntKind.i64.max := by
    have e1 : IntKind.i64.min = -9223372036854775808 := by decide
    have e2 : IntKind.i64.max = 9223372036854775807 := by decide
    rw [e1, e2]
    unfold sg
    split <;> omega
  simp only [hr, and_self, if_true]
theorem floatOf (k : FloatKind) (n : Int) : floatOfInt k n = iw k (decide (n < 0)) n.natAbs := rfl
end Go.Proofs.YtkemghecglbleaaGreatDoor
/- The program's products and quotients at whole numbers. -/
namespace Go.Proofs.YtkemghecglbleaaGreatDoor
set_option maxRecDepth 100000
set_option linter.unusedVariables false
open Go.Lib Go.RowKit
/-- a word that stands for a whole number -/
def Nz (k : FloatKind) (x : Nat) (z : Int) : Prop := z.natAbs < lim k ∧ ∃ s, x = iw k s z.natAbs ∧ sg s z.natAbs = z
theorem sg_xor (s t : Bool) (A B : Nat) : sg (s ^^ t) (A * B) = sg s A * sg t B := by
  unfold sg
  cases s <;> cases t <;> simp [Int.neg_mul, Int.mul_neg]
theorem sg_sm (s t : Bool) (z : Int) : sg (sm s t z) z.natAbs = z := by
  unfold sg sm
  by_cases h : z = 0
  · subst h; cases s <;> cases t <;> rfl
  · rw [if_neg h]
    by_cases h2 : z < 0
    · rw [decide_eq_true h2, if_pos rfl]; omega
    · rw [decide_eq_false h2, if_neg Bool.false_ne_true]; omega
theorem sg_not (s : Bool) (N : Nat) : sg (!s) N = -sg s N := by
  unfold sg
  cases s <;> simp
theorem Nz.mul {k : FloatKind} {x y : Nat} {z u : Int} (hx : Nz k x z) (hy : Nz k y u) (h : (z * u).natAbs < lim k) : ∃ w, cop .mul k (some x) (some y) = some w ∧ Nz k w (z * u) := by
  obtain ⟨b1, s, rfl, e1⟩ := hx
  obtain ⟨b2, t, rfl, e2⟩ := hy
  have e : (z * u).natAbs = z.natAbs * u.natAbs := Int.natAbs_mul z u
  refine ⟨_, imul b1 b2 (by rw [← e]; exact h), h, s ^^ t, by rw [e], ?_⟩
  rw [e, sg_xor, e1, e2]
theorem Nz.add {k : FloatKind} {x y : Nat} {z u : Int} (hx : Nz k x z) (hy : Nz k y u) (h : (z + u).natAbs < lim k) : ∃ w, cop .add k (some x) (some y) = some w ∧ Nz k w (z + u) := by
  obtain ⟨b1, s, rfl, e1⟩ := hx
  obtain ⟨b2, t, rfl, e2⟩ := hy
  exact ⟨_, iadd b1 b2 (by rw [e1, e2]) h, h, _, rfl, sg_sm _ _ _⟩
theorem Nz.sub {k : FloatKind} {x y : Nat} {z u : Int} (hx : Nz k x z) (hy : Nz k y u) (h : (z - u).natAbs < lim k) : ∃ w, cop .sub k (some x) (some y) = some w ∧ Nz k w (z - u) := by
  obtain ⟨b1, s, rfl, e1⟩ := hx
  obtain ⟨b2, t, rfl, e2⟩ := hy
  exact ⟨_, isub b1 b2 (by rw [sg_not, e1, e2]; rfl) h, h, _, rfl, sg_sm _ _ _⟩
theorem Nz.quo {x y : Nat} {q u : Int} (hx : Nz .f64 x (q * u)) (hy : Nz .f64 y u) (h0 : u ≠ 0) (hq : q.natAbs < lim .f64) : ∃ w, cop .quo .f64 (some x) (some y) = some w ∧ Nz .f64 w q := by
  obtain ⟨b1, s, rfl, e1⟩ := hx
  obtain ⟨b2, t, rfl, e2⟩ := hy
  have e : (q * u).natAbs = q.natAbs * u.natAbs := Int.natAbs_mul q u
  rw [e] at e1 b1 ⊢
  refine ⟨_, iquo b1 b2 hq (by omega), hq, s ^^ t, rfl, ?_⟩
  have h1 : sg (s ^^ t) q.natAbs * sg t u.natAbs = sg s (q.natAbs * u.natAbs) := by rw [← sg_xor]; cases s <;> cases t <;> rfl
  rw [e2, e1] at h1
  exact Int.eq_of_mul_eq_mul_right h0 h1
theorem Nz.conv {k l : FloatKind} {x : Nat} {z : Int} (hx : Nz k x z) (h : z.natAbs < lim l) : ∃ y, isConv k l x y = true ∧ Nz l y z := by
  obtain ⟨b1, s, rfl, e1⟩ := hx
  exact ⟨_, iconv b1 h, h, s, rfl, e1⟩
theorem Nz.ord {k : FloatKind} {x y : Nat} {z u : Int} (hx : Nz k x z) (hy : Nz k y u) : k.format.order x y = some (compare z u) := by
  obtain ⟨b1, s, rfl, e1⟩ := hx
  obtain ⟨b2, t, rfl, e2⟩ := hy
  rw [icmp b1 b2, e1, e2]
theorem Nz.eq {k : FloatKind} {x y : Nat} {z : Int} (hx : Nz k x z) (hy : Nz k y z) : (k.format.order x y == some .eq) = true := by
  rw [hx.ord hy]; simp
theorem Nz.ne {k : FloatKind} {x y : Nat} {z u : Int} (hx : Nz k x z) (hy : Nz k y u) : (k.format.order x y == some .eq) = decide (z = u) := by
  rw [hx.ord hy]
  by_cases h : z = u
  · subst h; simp
  · rw [decide_eq_false h, beq_eq_false_iff_ne]
    intro q
    injection q with q
    exact h (Int.compare_eq_eq.1 q)
theorem Nz.neg {x : Nat} {z : Int} (hx : Nz .f32 x z) : Nz .f32 (Op.negFloat .f32 x) (-z) := by
  obtain ⟨b1, s, rfl, e1⟩ := hx
  have e : (-z).natAbs = z.natAbs := Int.natAbs_neg z
  refine ⟨by rw [e]; exact b1, !s, by rw [ineg s _ b1, e], by rw [e, sg_not, e1]⟩
theorem Nz.of (k : FloatKind) {n : Int} (h : n.natAbs < lim k) : Nz k (floatOfInt k n) n := by
  refine ⟨h, decide (n < 0), rfl, ?_⟩
  unfold sg
  by_cases h2 : n < 0
  · rw [decide_eq_true h2, if_pos rfl]; omega
  · rw [decide_eq_false h2, if_neg Bool.false_ne_true]; omega
theorem Nz.int {x : Nat} {z : Int} (hx : Nz .f32 x z) : floatToIntVal .f32 x .i64 = some z := by
  obtain ⟨b1, s, rfl, e1⟩ := hx
  rw [iint s _ b1, e1]
theorem Nz.lt {x : Nat} {z : Int} (hx : Nz .f32 x z) : x < 4294967296 := by
  obtain ⟨b1, s, rfl, e1⟩ := hx
  have := iw_lt .f32 s _ b1
  rw [f32_sign] at this
  omega
theorem lim32 {z : Int} (h : z.natAbs < 16777216) : z.natAbs < lim .f32 := h
theorem lim64 {z : Int} (h : z.natAbs < 16777216 * 10) : z.natAbs < lim .f64 := by show _ < 9007199254740992; omega
/-! bounds of products -/
theorem bd_mul {a b : Int} {A B : Nat} (ha : a.natAbs ≤ A) (hb : b.natAbs ≤ B) : (a * b).natAbs ≤ A * B := by
  rw [Int.natAbs_mul]; exact Nat.mul_le_mul ha hb
/-! the functions -/
theorem upI {x y : Nat} (h : isConv .f32 .f64 x y = true) (w : World) : (convert 28 46 (.float .f32 x)).run Tryz.prog w = .ok (.float .f64 y) w := run_convN (by decide) (by kernel_rfl) Tryz.underlying46 h w
theorem dnI {x y : Nat} (h : isConv .f64 .f32 x y = true) (w : World) : (convert 46 28 (.float .f64 x)).run Tryz.prog w = .ok (.float .f32 y) w := run_convN (by decide) (by kernel_rfl) Tryz.underlying28 h w
theorem int_of32 (v : Nat) (n : Int) (h : floatToIntVal .f32 v .i64 = some n) (w : World) : (convert 28 2 (.float .f32 v)).run Tryz.prog w = .ok (.int .i64 n) w :=
  run_convert_float_int w 28 2 .f32 .i64 v n (by rw [Tryz.underlying28]; rfl) Tryz.underlying2 h
theorem neqI (a b c d : Nat) (t : TypeId) (w : World) : (binOp .neq t (.complex .f32 a b) (.complex .f32 c d)).run Tryz.prog w = .ok (.bool !((FloatKind.f32.format.order a c == some .eq) && (FloatKind.f32.format.order b d == some .eq))) w := by
  simp [binOp, Op.complexOp, Op.Complex.cmp, Op.floatCmp, asBool]
theorem addI (a b c d x y : Nat) (t : TypeId) (h1 : cop .add .f32 (some a) (some c) = some x) (h2 : cop .add .f32 (some b) (some d) = some y) (w : World) : (binOp .add t (.complex .f32 a b) (.complex .f32 c d)).run Tryz.prog w = .ok (.complex .f32 x y) w := by
  have r1 := run_float_arith (P := Tryz.prog) w .add t .f32 _ _ _ h1
  have r2 := run_float_arith (P := Tryz.prog) w .add t .f32 _ _ _ h2
  simp [binOp] at r1 r2
  simp [binOp, Op.complexOp, Op.Complex.arith, r1, r2]
theorem impl_powerI (x y a b aa bb s : Nat) (ha : isConv .f32 .f64 x a = true) (hb : isConv .f32 .f64 y b = true) (h1 : cop .mul .f64 (some a) (some a) = some aa) (h2 : cop .mul .f64 (some b) (some b) = some bb) (h3 : cop .add .f64 (some aa) (some bb) = some s) (w : World) :
    Calls Tryz.prog 30 #[.complex .f32 x y] w (RetV (.float .f64 s) w) := by
  have u1 := upI ha
  have u2 := upI hb
  have r1 := fun t w => run_float_arith (P := Tryz.prog) w .mul t .f64 _ _ _ h1
  have r2 := fun t w => run_float_arith (P := Tryz.prog) w .mul t .f64 _ _ _ h2
  have r3 := fun t w => run_float_arith (P := Tryz.prog) w .add t .f64 _ _ _ h3
  clear ha hb h1 h2 h3
  go_enter Tryz.func30, Tryz.ntmps30
  go_wp2
  go_ret
  exact RetV.mk0 rfl
theorem impl_PowerOfI (x y s z : Nat) (hp : ∀ w, Calls Tryz.prog 30 #[.complex .f32 x y] w (RetV (.float .f64 s) w)) (hz : isConv .f64 .f32 s z = true) (w : World) :
    Calls Tryz.prog 7 #[.complex .f32 x y] w (RetV (.float .f32 z) w) := by
  have C := Lib.hid hp
  have u1 := dnI hz
  clear hp hz
  go_enter Tryz.func7, Tryz.ntmps7
  go_wp2_with fail
  refine (C.out _).mono ?_
  rintro _ _ ⟨n, rfl, rfl⟩
  go_wp2
  go_ret
  exact RetV.mk rfl
theorem impl_timesI (x y p q a b c d ac bd ad bc r i : Nat) (ha : isConv .f32 .f64 x a = true) (hb : isConv .f32 .f64 y b = true) (hc : isConv .f32 .f64 p c = true) (hd : isConv .f32 .f64 q d = true)
    (h1 : cop .mul .f64 (some a) (some c) = some ac) (h2 : cop .mul .f64 (some b) (some d) = some bd) (h3 : cop .sub .f64 (some ac) (some bd) = some r) (h4 : cop .mul .f64 (some a) (some d) = some ad) (h5 : cop .mul .f64 (some b) (some c) = some bc) (h6 : cop .add .f64 (some ad) (some bc) = some i) (w : World) :
    Calls Tryz.prog 29 #[.complex .f32 x y, .complex .f32 p q] w (RetV (.tuple #[.float .f64 r, .float .f64 i]) w) := by
  have u1 := upI ha
  have u2 := upI hb
  have u3 := upI hc
  have u4 := upI hd
  have r1 := fun t w => run_float_arith (P := Tryz.prog) w .mul t .f64 _ _ _ h1
  have r2 := fun t w => run_float_arith (P := Tryz.prog) w .mul t .f64 _ _ _ h2
  have r3 := fun t w => run_float_arith (P := Tryz.prog) w .sub t .f64 _ _ _ h3
  have r4 := fun t w => run_float_arith (P := Tryz.prog) w .mul t .f64 _ _ _ h4
  have r5 := fun t w => run_float_arith (P := Tryz.prog) w .mul t .f64 _ _ _ h5
  have r6 := fun t w => run_float_arith (P := Tryz.prog) w .add t .f64 _ _ _ h6
  clear ha hb hc hd h1 h2 h3 h4 h5 h6
  go_enter Tryz.func29, Tryz.ntmps29
  go_wp2
  go_ret2
  exact RetV.mk0 rfl
theorem impl_MulI (x y p q r i zr zi : Nat) (ht : ∀ w, Calls Tryz.prog 29 #[.complex .f32 x y, .complex .f32 p q] w (RetV (.tuple #[.float .f64 r, .float .f64 i]) w)) (h1 : isConv .f64 .f32 r zr = true) (h2 : isConv .f64 .f32 i zi = true) (w : World) :
    Calls Tryz.prog 6 #[.complex .f32 x y, .complex .f32 p q] w (RetV (.complex .f32 zr zi) w) := by
  have C := Lib.hid ht
  have u1 := dnI h1
  have u2 := dnI h2
  clear ht h1 h2
  go_enter Tryz.func6, Tryz.ntmps6
  go_wp2_with fail
  refine (C.out _).mono ?_
  rintro _ _ ⟨n, rfl, rfl⟩
  go_wp2
  go_ret
  exact RetV.mk rfl
theorem negI (k : FloatKind) (x : Nat) (w : World) : (Op.unary .neg (.float k x)).run Tryz.prog w = .ok (.float k (Op.negFloat k x)) w := rfl
theorem impl_ConjI (x y : Nat) (w : World) : Calls Tryz.prog 8 #[.complex .f32 x y] w (RetV (.complex .f32 x (Op.negFloat .f32 y)) w) := by
  have N := negI .f32 y
  go_enter Tryz.func8, Tryz.ntmps8
  go_wp2
  go_ret
  exact RetV.mk0 rfl
theorem impl_QuoI (p q x y r i s a b za zb : Nat) (ht : ∀ w, Calls Tryz.prog 29 #[.complex .f32 p q, .complex .f32 x (Op.negFloat .f32 y)] w (RetV (.tuple #[.float .f64 r, .float .f64 i]) w))
    (hp : ∀ w, Calls Tryz.prog 30 #[.complex .f32 x y] w (RetV (.float .f64 s) w)) (h1 : cop .quo .f64 (some r) (some s) = some a) (h2 : cop .quo .f64 (some i) (some s) = some b)
    (h3 : isConv .f64 .f32 a za = true) (h4 : isConv .f64 .f32 b zb = true) (w : World) :
    Calls Tryz.prog 12 #[.complex .f32 p q, .complex .f32 x y] w (RetV (.complex .f32 za zb) w) := by
  have C0 := Lib.hid (impl_ConjI x y)
  generalize Op.negFloat .f32 y = ny at *
  have C1 := Lib.hid ht
  have C2 := Lib.hid hp
  have u1 := dnI h3
  have u2 := dnI h4
  have r1 := fun t w => run_float_arith (P := Tryz.prog) w .quo t .f64 _ _ _ h1
  have r2 := fun t w => run_float_arith (P := Tryz.prog) w .quo t .f64 _ _ _ h2
  clear ht hp h1 h2 h3 h4
  go_enter Tryz.func12, Tryz.ntmps12
  go_wp2_with fail
  refine (C0.out _).mono ?_
  rintro _ _ ⟨n, rfl, rfl⟩
  go_wp2_with fail
  refine (C1.out _).mono ?_
  rintro _ _ ⟨n2, rfl, rfl⟩
  go_wp2_with fail
  refine (C2.out _).mono ?_
  rintro _ _ ⟨n3, rfl, rfl⟩
  go_wp2
  go_ret
  exact RetV.mk rfl
theorem impl_ScaleI (x y s a b : Nat) (h1 : cop .mul .f32 (some x) (some s) = some a) (h2 : cop .mul .f32 (some y) (some s) = some b) (w : World) :
    Calls Tryz.prog 13 #[.complex .f32 x y, .float .f32 s] w (RetV (.complex .f32 a b) w) := by
  have r1 := fun t w => run_float_arith (P := Tryz.prog) w .mul t .f32 _ _ _ h1
  have r2 := fun t w => run_float_arith (P := Tryz.prog) w .mul t .f32 _ _ _ h2
  clear h1 h2
  go_enter Tryz.func13, Tryz.ntmps13
  go_wp2
  go_ret
  exact RetV.mk0 rfl
theorem impl_LongI (x y s : Nat) (c : Option Nat) (hp : ∀ w, Calls Tryz.prog 30 #[.complex .f32 x y] w (RetV (.float .f64 s) w)) (hs : cn .f64 s = some s) (hc : csqrt (some s) = c) (hf : Fits .f64 .f32 c) (w : World) :
    Calls Tryz.prog 10 #[.complex .f32 x y] w (RetF .f32 (cconv .f64 .f32 c) w) := by
  have C := Lib.hid hp
  have M := Lib.hid (fun w => (show Calls Tryz.prog 32 #[.float .f64 s] w (RetF .f64 c w) by
    have := math_Sqrt s w
    rwa [hs, hc] at this))
  have HF := Lib.hid hf
  clear hp hs hc hf
  go_enter Tryz.func10, Tryz.ntmps10
  go_wp2_with fail
  refine (C.out _).mono ?_
  rintro _ _ ⟨n, rfl, rfl⟩
  go_wp2_with fail
  refine (M.out _).mono ?_
  rintro _ _ ⟨r, n2, rfl, hr, rfl⟩
  have HR := Lib.hid hr
  clear hr
  go_wp2_with ((with_reducible refine up_down _ _ ?hf ?_); rotate_left; intro r nd hr)
  case hf => rw [HR.out.out]; exact HF.out
  go_ret
  refine RetF.mk (hr.cast ?_)
  rw [HR.out.out]
end Go.Proofs.YtkemghecglbleaaGreatDoor
/- Products, powers and quotients at whole numbers: what the functions give. -/
namespace Go.Proofs.YtkemghecglbleaaGreatDoor
set_option maxRecDepth 100000
set_option linter.unusedVariables false
open Go.Lib Go.RowKit
theorem isConv_cconv {s d : FloatKind} {x y : Nat} (h : isConv s d x y = true) : cconv s d (some x) = some y := by
  unfold isConv at h
  unfold cconv
  cases hx : s.decode x with
  | nan g t => rw [hx] at h; cases h
  | infinity g => rw [hx] at h; cases h
  | number g m e =>
    rw [hx] at h
    simp only [Bool.and_eq_true, beq_iff_eq] at h
    simp [hx, h.1]
theorem Nz.zero (k : FloatKind) : Nz k 0 0 := by
  refine ⟨by cases k <;> decide, false, ?_, rfl⟩
  cases k <;> decide
theorem Nz.two : Nz .f32 1073741824 2 := ⟨by decide, false, by decide +kernel, rfl⟩
theorem two_bd {a b : Int} {M : Nat} (ha : a.natAbs ≤ M) (hb : b.natAbs ≤ M) : (a + b).natAbs ≤ 2 * M ∧ (a - b).natAbs ≤ 2 * M := by omega
theorem times_Nz {x y p q : Nat} {a b c d : Int} (hx : Nz .f32 x a) (hy : Nz .f32 y b) (hp : Nz .f32 p c) (hq : Nz .f32 q d) {A B M : Nat} (ha : a.natAbs ≤ A) (hb : b.natAbs ≤ A) (hc : c.natAbs ≤ B) (hd : d.natAbs ≤ B) (hM : A * B = M) (hAB : M ≤ 20000000) :
    ∃ r i, Nz .f64 r (a * c - b * d) ∧ Nz .f64 i (a * d + b * c) ∧ ∀ w, Calls Tryz.prog 29 #[.complex .f32 x y, .complex .f32 p q] w (RetV (.tuple #[.float .f64 r, .float .f64 i]) w) := by
  have w1 : ∀ {x : Nat} {z : Int}, Nz .f32 x z → z.natAbs < lim .f64 := fun h => Nat.lt_of_lt_of_le h.1 (by decide)
  obtain ⟨x', ux, nx⟩ := hx.conv (w1 hx)
  obtain ⟨y', uy, ny⟩ := hy.conv (w1 hy)
  obtain ⟨p', up, np⟩ := hp.conv (w1 hp)
  obtain ⟨q', uq, nq⟩ := hq.conv (w1 hq)
  have b1 := bd_mul ha hc
  have b2 := bd_mul hb hd
  have b3 := bd_mul ha hd
  have b4 := bd_mul hb hc
  rw [hM] at b1 b2 b3 b4
  have small : ∀ {z : Int}, z.natAbs ≤ 2 * M → z.natAbs < lim .f64 := fun h => by show _ < 9007199254740992; omega
  obtain ⟨v1, e1, m1⟩ := nx.mul np (small (by omega))
  obtain ⟨v2, e2, m2⟩ := ny.mul nq (small (by omega))
  obtain ⟨v3, e3, m3⟩ := nx.mul nq (small (by omega))
  obtain ⟨v4, e4, m4⟩ := ny.mul np (small (by omega))
  obtain ⟨r, e5, m5⟩ := m1.sub m2 (small (two_bd b1 b2).2)
  obtain ⟨i, e6, m6⟩ := m3.add m4 (small (two_bd b3 b4).1)
  exact ⟨r, i, m5, m6, fun w => impl_timesI _ _ _ _ _ _ _ _ _ _ _ _ _ _ ux uy up uq e1 e2 e5 e3 e4 e6 w⟩
theorem mul_Nz {x y p q : Nat} {a b c d : Int} (hx : Nz .f32 x a) (hy : Nz .f32 y b) (hp : Nz .f32 p c) (hq : Nz .f32 q d) (ha : a.natAbs ≤ 200) (hb : b.natAbs ≤ 200) (hc : c.natAbs ≤ 200) (hd : d.natAbs ≤ 200) :
    ∃ r i, Nz .f32 r (a * c - b * d) ∧ Nz .f32 i (a * d + b * c) ∧ (a * c - b * d).natAbs ≤ 80000 ∧ (a * d + b * c).natAbs ≤ 80000 ∧ ∀ w, Calls Tryz.prog 6 #[.complex .f32 x y, .complex .f32 p q] w (RetV (.complex .f32 r i) w) := by
  obtain ⟨r, i, h1, h2, h3⟩ := times_Nz hx hy hp hq ha hb hc hd (show 200 * 200 = 40000 from rfl) (by omega)
  have b1 := bd_mul ha hc
  have b2 := bd_mul hb hd
  have b3 := bd_mul ha hd
  have b4 := bd_mul hb hc
  have c1 : (a * c - b * d).natAbs ≤ 80000 := (two_bd b1 b2).2
  have c2 : (a * d + b * c).natAbs ≤ 80000 := (two_bd b3 b4).1
  obtain ⟨zr, e1, m1⟩ := h1.conv (l := .f32) (by show _ < 16777216; omega)
  obtain ⟨zi, e2, m2⟩ := h2.conv (l := .f32) (by show _ < 16777216; omega)
  exact ⟨zr, zi, m1, m2, c1, c2, fun w => impl_MulI _ _ _ _ _ _ _ _ h3 e1 e2 w⟩
/-- the power, to the word -/
theorem power_Nz {x y : Nat} {a b : Int} (hx : Nz .f32 x a) (hy : Nz .f32 y b) (ha : a.natAbs ≤ 200) (hb : b.natAbs ≤ 200) :
    ∃ N : Nat, (N : Int) = a * a + b * b ∧ N ≤ 80000 ∧ ∀ w, Calls Tryz.prog 30 #[.complex .f32 x y] w (RetV (.float .f64 (iw .f64 false N)) w) := by
  obtain ⟨l1, s, rfl, e1⟩ := hx
  obtain ⟨l2, t, rfl, e2⟩ := hy
  have L : ∀ n : Nat, n ≤ 80000 → n < lim .f64 := fun n h => by show _ < 9007199254740992; omega
  have c1 : a.natAbs * a.natAbs ≤ 40000 := Nat.mul_le_mul ha ha
  have c2 : b.natAbs * b.natAbs ≤ 40000 := Nat.mul_le_mul hb hb
  have u1 := iconv (k := .f32) (l := .f64) (s := s) l1 (L _ (by omega))
  have u2 := iconv (k := .f32) (l := .f64) (s := t) l2 (L _ (by omega))
  have m1 := imul (k := .f64) (s := s) (t := s) (L a.natAbs (by omega)) (L a.natAbs (by omega)) (L _ (by omega))
  have m2 := imul (k := .f64) (s := t) (t := t) (L b.natAbs (by omega)) (L b.natAbs (by omega)) (L _ (by omega))
  rw [Bool.xor_self] at m1 m2
  obtain ⟨P, hP⟩ : ∃ P, P = a.natAbs * a.natAbs := ⟨_, rfl⟩
  obtain ⟨Q, hQ⟩ : ∃ Q, Q = b.natAbs * b.natAbs := ⟨_, rfl⟩
  have hP2 : (P : Int) = a * a := by rw [hP, Int.natAbs_mul_self]
  have hQ2 : (Q : Int) = b * b := by rw [hQ, Int.natAbs_mul_self]
  rw [← hP] at m1 c1
  rw [← hQ] at m2 c2
  have m3 := iadd (k := .f64) (s := false) (t := false) (L P (by omega)) (L Q (by omega)) (z := ((P + Q : Nat) : Int)) (by unfold sg; simp) (by rw [Int.natAbs_natCast]; exact L _ (by omega))
  rw [Int.natAbs_natCast, show sm false false ((P + Q : Nat) : Int) = false by
    unfold sm
    split
    · rfl
    · exact decide_eq_false (by omega)] at m3
  exact ⟨P + Q, by rw [← hP2, ← hQ2]; simp, by omega, fun w => impl_powerI _ _ _ _ _ _ _ u1 u2 m1 m2 m3 w⟩
theorem iw_pos (k : FloatKind) (N : Nat) : iw k false N = floatOfInt k (N : Int) := by
  rw [floatOf, decide_eq_false (show ¬ (N : Int) < 0 by omega), Int.natAbs_natCast]
theorem powerOf_Nz {x y N : Nat} (hN : N ≤ 80000) (h : ∀ w, Calls Tryz.prog 30 #[.complex .f32 x y] w (RetV (.float .f64 (iw .f64 false N)) w)) (w : World) :
    Calls Tryz.prog 7 #[.complex .f32 x y] w (RetV (.float .f32 (floatOfInt .f32 (N : Int))) w) := by
  rw [← iw_pos]
  exact impl_PowerOfI _ _ _ _ h (iconv (by show _ < 9007199254740992; omega) (by show _ < 16777216; omega)) w
theorem long_Nz {x y N : Nat} (hN : N ≤ 80000) (h : ∀ w, Calls Tryz.prog 30 #[.complex .f32 x y] w (RetV (.float .f64 (iw .f64 false N)) w)) (w : World) :
    Calls Tryz.prog 10 #[.complex .f32 x y] w (RetF .f32 (rootC (cn .f32 (floatOfInt .f32 (N : Int)))) w) := by
  have l1 : N < lim .f32 := by show _ < 16777216; omega
  have l2 : N < lim .f64 := by show _ < 9007199254740992; omega
  have hlt := iw_lt .f32 false N l1
  rw [f32_sign] at hlt
  have hf := fits_sqrt (iw .f32 false N) (by omega)
  have hc := isConv_cconv (iconv (k := .f32) (l := .f64) (s := false) l1 l2)
  rw [← iw_pos]
  unfold rootC
  rw [iw_cn .f32 false N l1, hc] at hf
  rw [iw_cn .f32 false N l1, hc]
  exact impl_LongI _ _ _ _ h (iw_cn .f64 false N l2) rfl hf w
theorem quo_r (m n p q : Int) : (m * p - n * q) * p - (m * q + n * p) * (-q) = m * (p * p + q * q) := by grind
theorem quo_i (m n p q : Int) : (m * p - n * q) * (-q) + (m * q + n * p) * p = n * (p * p + q * q) := by grind
theorem quo_Nz {r i p q : Nat} {m n c d : Int} (hr : Nz .f32 r (m * c - n * d)) (hi : Nz .f32 i (m * d + n * c)) (hp : Nz .f32 p c) (hq : Nz .f32 q d) (br : (m * c - n * d).natAbs ≤ 80000) (bi : (m * d + n * c).natAbs ≤ 80000)
    (hm : m.natAbs ≤ 200) (hn : n.natAbs ≤ 200) (hc : c.natAbs ≤ 200) (hd : d.natAbs ≤ 200) (h0 : ¬ (c = 0 ∧ d = 0)) :
    ∃ a b, Nz .f32 a m ∧ Nz .f32 b n ∧ ∀ w, Calls Tryz.prog 12 #[.complex .f32 r i, .complex .f32 p q] w (RetV (.complex .f32 a b) w) := by
  obtain ⟨N, eN, lN, hP⟩ := power_Nz hp hq hc hd
  obtain ⟨t, u, h1, h2, hT⟩ := times_Nz hr hi hp hq.neg br bi hc (by omega) (show 80000 * 200 = 16000000 from rfl) (by omega)
  rw [quo_r, ← eN] at h1
  rw [quo_i, ← eN] at h2
  have hs : Nz .f64 (iw .f64 false N) (N : Int) := ⟨by rw [Int.natAbs_natCast]; show _ < 9007199254740992; omega, false, by rw [Int.natAbs_natCast], by unfold sg; simp⟩
  have hN0 : (N : Int) ≠ 0 := by
    intro q0
    rw [eN] at q0
    have a1 : 0 ≤ c * c := by rw [← Int.natAbs_mul_self]; exact Int.natCast_nonneg _
    have a2 : 0 ≤ d * d := by rw [← Int.natAbs_mul_self]; exact Int.natCast_nonneg _
    have z1 : c * c = 0 := by omega
    have z2 : d * d = 0 := by omega
    exact h0 ⟨by rcases Int.mul_eq_zero.1 z1 with h | h <;> exact h, by rcases Int.mul_eq_zero.1 z2 with h | h <;> exact h⟩
  obtain ⟨v1, e1, m1⟩ := h1.quo hs hN0 (by show _ < 9007199254740992; omega)
  obtain ⟨v2, e2, m2⟩ := h2.quo hs hN0 (by show _ < 9007199254740992; omega)
  obtain ⟨z1, e3, m3⟩ := m1.conv (l := .f32) (by show _ < 16777216; omega)
  obtain ⟨z2, e4, m4⟩ := m2.conv (l := .f32) (by show _ < 16777216; omega)
  exact ⟨z1, z2, m3, m4, fun w => impl_QuoI _ _ _ _ _ _ _ _ _ _ _ hT hP e1 e2 e3 e4 w⟩
theorem scale_Nz {x y : Nat} {a b : Int} (hx : Nz .f32 x a) (hy : Nz .f32 y b) (ha : a.natAbs ≤ 200) (hb : b.natAbs ≤ 200) :
    ∃ r i s j, Nz .f32 r (a * 2) ∧ Nz .f32 i (b * 2) ∧ Nz .f32 s (a + a) ∧ Nz .f32 j (b + b) ∧ (∀ w, Calls Tryz.prog 13 #[.complex .f32 x y, .float .f32 1073741824] w (RetV (.complex .f32 r i) w)) ∧
      ∀ t w, (binOp .add t (.complex .f32 x y) (.complex .f32 x y)).run Tryz.prog w = .ok (.complex .f32 s j) w := by
  have L : ∀ z : Int, z.natAbs ≤ 400 → z.natAbs < lim .f32 := fun z h => by show _ < 16777216; omega
  obtain ⟨r, e1, m1⟩ := hx.mul Nz.two (L _ (by omega))
  obtain ⟨i, e2, m2⟩ := hy.mul Nz.two (L _ (by omega))
  obtain ⟨s, e3, m3⟩ := hx.add hx (L _ (by omega))
  obtain ⟨j, e4, m4⟩ := hy.add hy (L _ (by omega))
  exact ⟨r, i, s, j, m1, m2, m3, m4, fun w => impl_ScaleI _ _ _ _ _ e1 e2 w, fun t w => addI _ _ _ _ _ _ t e3 e4 w⟩
end Go.Proofs.YtkemghecglbleaaGreatDoor
