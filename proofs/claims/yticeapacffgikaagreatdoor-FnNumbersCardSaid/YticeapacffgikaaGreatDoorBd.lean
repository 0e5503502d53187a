/- Plain laws of floating-point numbers: bounds by powers of two that rounding keeps. No condition. -/
import Derived.Test.YticeapacffgikaaGreatDoorExb
import Derived.Test.YticeapacffgikaaGreatDoorSq
namespace Go.Proofs.YticeapacffgikaaGreatDoor
set_option maxRecDepth 100000

/-- a finite number of magnitude at most 2^T -/
def Db (d : Ieee.Datum) (T : Int) : Prop := ∃ s m e, d = .number s m e ∧ (m = 0 ∨ (e ≤ T ∧ m ≤ 2 ^ (T - e).toNat))
/-- if c is some x, x is such a number -/
def Lb (k : FloatKind) (c : Option Nat) (T : Int) : Prop := ∀ x, c = some x → Db (k.decode x) T

theorem Db.mono {d : Ieee.Datum} {T U : Int} (h : Db d T) (hu : T ≤ U) : Db d U := by
  obtain ⟨s, m, e, rfl, h⟩ := h
  refine ⟨s, m, e, rfl, h.imp id fun ⟨h1, h2⟩ => ⟨by omega, Nat.le_trans h2 (Nat.pow_le_pow_right (by omega) (by omega))⟩⟩
theorem Lb.mono {k : FloatKind} {c : Option Nat} {T U : Int} (h : Lb k c T) (hu : T ≤ U) : Lb k c U := fun x hx => (h x hx).mono hu
theorem Db.toDl {d : Ieee.Datum} {T : Int} (h : Db d T) : Dl d T := by
  obtain ⟨s, m, e, rfl, h⟩ := h
  refine ⟨s, m, e, rfl, ?_⟩
  rcases h with h | ⟨h1, h2⟩
  · exact .inl h
  · rcases log2_le_of_lt (Nat.lt_of_le_of_lt h2 (Nat.pow_lt_pow_right (by omega) (Nat.lt_succ_self _))) with h | h
    · exact .inl h
    · right; omega
theorem Lb.toLg {k : FloatKind} {c : Option Nat} {T : Int} (h : Lb k c T) : Lg k c T := fun x hx => (h x hx).toDl
theorem Dl.toDb {d : Ieee.Datum} {T : Int} (h : Dl d T) : Db d (T + 1) := by
  obtain ⟨s, m, e, rfl, h⟩ := h
  refine ⟨s, m, e, rfl, h.imp id fun h => ⟨by omega, ?_⟩⟩
  exact Nat.le_trans (Nat.le_of_lt (log2_lt m)) (Nat.pow_le_pow_right (by omega) (by omega))

theorem read_Db (f : Ieee.Format) (neg : Bool) (r : Nat) (T : Int) (hr : r ≤ f.infRung) (hlo : f.leastPlace + f.fractionBits ≤ T) (hb : 0 < f.fractionBits)
    (h : r ≤ ((T - f.fractionBits - f.leastPlace).toNat + 1) * f.binade) (hfin : ((T - f.fractionBits - f.leastPlace).toNat + 1) * f.binade < f.infRung) : Db (f.read (f.word neg r)) T := by
  have hs := f.infRung_lt
  have hbp : 0 < f.binade := Nat.two_pow_pos _
  have hw : f.word neg r % f.signWeight = r := by
    unfold Ieee.Format.word
    split
    · rw [Nat.add_mod_left, Nat.mod_eq_of_lt (by omega)]
    · exact Nat.mod_eq_of_lt (by omega)
  unfold Ieee.Format.read
  simp only [hw]
  split
  · rename_i hlt
    refine ⟨_, _, _, rfl, .inr ⟨by omega, ?_⟩⟩
    exact Nat.le_trans (Nat.le_of_lt hlt) (Nat.pow_le_pow_right (by omega) (by omega))
  · rename_i hge
    rw [if_pos (by omega)]
    have hmod := Nat.mod_lt r hbp
    have hd1 : 1 ≤ r / f.binade := (Nat.le_div_iff_mul_le hbp).2 (by omega)
    have hdiv : r / f.binade ≤ (T - f.fractionBits - f.leastPlace).toNat + 1 := by
      have := Nat.div_le_div_right (c := f.binade) h
      rwa [Nat.mul_div_cancel _ hbp] at this
    refine ⟨_, _, _, rfl, .inr ⟨by omega, ?_⟩⟩
    rcases Nat.lt_or_eq_of_le hdiv with hd | hd
    · refine Nat.le_trans (show f.binade + r % f.binade ≤ 2 ^ (f.fractionBits + 1) by rw [Nat.pow_succ]; unfold Ieee.Format.binade at *; omega) (Nat.pow_le_pow_right (by omega) (by omega))
    · have hm0 : r % f.binade = 0 := by
        have h1 := Nat.div_add_mod r f.binade
        rw [hd, Nat.mul_comm] at h1
        omega
      rw [hm0, Nat.add_zero]
      exact Nat.pow_le_pow_right (by omega) (by omega)

theorem nearest_Db (f : Ieee.Format) (neg : Bool) (m : Nat) (p : Int) (T : Int) (h : m = 0 ∨ (p ≤ T ∧ m ≤ 2 ^ (T - p).toNat)) (hlo : f.leastPlace + f.fractionBits < T) (hb : 0 < f.fractionBits)
    (hfin : ((T - f.fractionBits - f.leastPlace).toNat + 1) * f.binade < f.infRung) : Db (f.read (f.nearest neg m p)) T := by
  by_cases hm : m = 0
  · subst hm
    rw [nearest_zero]
    exact read_Db f neg 0 T (Nat.zero_le _) (by omega) hb (Nat.zero_le _) hfin
  · obtain ⟨h1, h2⟩ := h.resolve_left hm
    have hbp : 0 < f.binade := Nat.two_pow_pos _
    rcases Nat.lt_or_eq_of_le h2 with h2 | h2
    · have hl : p + (m.log2 : Int) ≤ T - 1 := by
        have := (Nat.log2_lt hm).2 h2
        omega
      obtain ⟨r, hr, h3, h4⟩ := nearest_word f neg m p hm (T - 1) hl (by omega)
      rw [hr]
      refine read_Db f neg r T h4 (by omega) hb ?_ hfin
      refine Nat.le_trans h3 (Nat.mul_le_mul_right _ ?_)
      omega
    · have hn := nearest_of f neg m p f.binade (T - f.fractionBits) (by omega) (by
          rw [h2]
          unfold Ieee.Format.binade
          rw [← Nat.pow_add, ← Nat.pow_add]
          congr 1
          omega) (by omega) (by omega) (.inl (Nat.le_refl _)) (by
          have e : (T - f.fractionBits - f.leastPlace).toNat * f.binade + f.binade = ((T - f.fractionBits - f.leastPlace).toNat + 1) * f.binade := by rw [Nat.add_mul, Nat.one_mul]
          omega)
      rw [hn]
      have e : (T - f.fractionBits - f.leastPlace).toNat * f.binade + f.binade = ((T - f.fractionBits - f.leastPlace).toNat + 1) * f.binade := by rw [Nat.add_mul, Nat.one_mul]
      rw [e]
      exact read_Db f neg _ T (by omega) (by omega) hb (Nat.le_refl _) hfin

/-- the range in which a bound may lie -/
def InR (k : FloatKind) (T : Int) : Prop := match k with | .f32 => -126 < T ∧ T ≤ 126 | .f64 => -1022 < T ∧ T ≤ 1022

theorem write_Db (k : FloatKind) {d : Ieee.Datum} {T : Int} (h : Db d T) (hT : InR k T) : Db (k.decode (k.encode d)) T := by
  obtain ⟨s, m, e, rfl, h⟩ := h
  unfold FloatKind.decode FloatKind.encode Ieee.Format.write
  refine nearest_Db k.format s m e T h ?_ ?_ ?_
  · cases k
    · simp only [InR] at hT; rw [f32_least, f32_frac]; omega
    · simp only [InR] at hT; rw [f64_least, f64_frac]; omega
  · cases k <;> decide
  · cases k
    · simp only [InR] at hT
      rw [f32_least, f32_frac, f32_bin, f32_inf]; omega
    · simp only [InR] at hT
      rw [f64_least, f64_frac, f64_bin, f64_inf]; omega

/-- A 64-bit number of magnitude at most 2^126 is narrowed to a finite one. -/
theorem Lb.fits {c : Option Nat} {T : Int} (h : Lb .f64 c T) (h1 : T ≤ 126) : Fits .f64 .f32 c := by
  cases c with
  | none => trivial
  | some x =>
    intro g m e hx
    have h2 := (h x rfl).mono h1
    rw [hx] at h2
    have := write_Db .f32 h2 ⟨by omega, by omega⟩
    exact this.toDl.not_inf

open Ieee in
theorem Db.sum {x y d : Datum} {T : Int} (hx : Db x T) (hy : Db y T) (h : x.sum y = some d) : Db d (T + 1) := by
  obtain ⟨s, m, i, rfl, hx⟩ := hx
  obtain ⟨t, n, j, rfl, hy⟩ := hy
  simp only [Datum.sum, Option.some.injEq] at h
  subst h
  refine ⟨_, _, _, rfl, ?_⟩
  have hs : ∀ (s : Bool) (m a : Nat), (signed s m a).natAbs = m * 2 ^ a := by
    intro s m a; unfold signed; split <;> (rw [Nat.shiftLeft_eq]; first | rw [Int.natAbs_neg, Int.natAbs_natCast] | rw [Int.natAbs_natCast])
  have hle := Int.natAbs_add_le (signed s m (i - min i j).toNat) (signed t n (j - min i j).toNat)
  rw [hs, hs] at hle
  generalize hM : (signed s m (i - min i j).toNat + signed t n (j - min i j).toNat).natAbs = M at hle ⊢
  have up : ∀ (m : Nat) (i b : Int), b ≤ i → (m = 0 ∨ (i ≤ T ∧ m ≤ 2 ^ (T - i).toNat)) → m * 2 ^ (i - b).toNat ≤ 2 ^ (T - b).toNat := by
    intro m i b hb h
    rcases h with h | ⟨h1, h2⟩
    · subst h; simp
    · refine Nat.le_trans (Nat.mul_le_mul_right _ h2) ?_
      rw [← Nat.pow_add]
      exact Nat.pow_le_pow_right (by omega) (by omega)
  by_cases hb : min i j ≤ T
  · right
    refine ⟨by omega, ?_⟩
    have b1 := up m i (min i j) (by omega) hx
    have b2 := up n j (min i j) (by omega) hy
    rw [show (T + 1 - min i j).toNat = (T - min i j).toNat + 1 by omega, Nat.pow_succ]
    omega
  · left
    have e1 : m = 0 := by rcases hx with h | h <;> omega
    have e2 : n = 0 := by rcases hy with h | h <;> omega
    subst e1; subst e2
    simpa using hle

open Ieee in
theorem Db.opposite {y : Datum} {T : Int} (h : Db y T) : Db y.opposite T := by
  obtain ⟨s, m, i, rfl, h⟩ := h; exact ⟨!s, m, i, rfl, h⟩

open Ieee in
theorem Db.product {x y d : Datum} {T U : Int} (hx : Db x T) (hy : Db y U) (h : x.product y = some d) : Db d (T + U) := by
  obtain ⟨s, m, i, rfl, hx⟩ := hx
  obtain ⟨t, n, j, rfl, hy⟩ := hy
  simp only [Datum.product, Option.some.injEq] at h
  subst h
  refine ⟨_, _, _, rfl, ?_⟩
  rcases hx with h | ⟨h1, h2⟩
  · left; simp [h]
  rcases hy with h | ⟨h3, h4⟩
  · left; simp [h]
  right
  refine ⟨by omega, Nat.le_trans (Nat.mul_le_mul h2 h4) ?_⟩
  rw [← Nat.pow_add]
  exact Nat.pow_le_pow_right (by omega) (by omega)

open Ieee in
theorem Db.quotient {x y d : Datum} {q : Nat} {T L : Int} (hx : Db x T) (hy : Al y L) (hq : 2 ≤ q) (h : x.quotient q y = some d) : Db d (T - L) := by
  obtain ⟨s, m, i, rfl, hx⟩ := hx
  obtain ⟨t, n, j, rfl, hn, hy⟩ := hy
  simp only [Datum.quotient, if_neg hn, Option.some.injEq] at h
  subst h
  refine ⟨_, _, _, rfl, ?_⟩
  rcases hx with h | ⟨h1, h2⟩
  · left; subst h; simp
  by_cases hm : m = 0
  · left; subst hm; simp
  have hmore : n.log2 + 2 ≤ m.log2 + (q + n.log2 - m.log2) ∨ m.log2 > q + n.log2 := by omega
  have hml : m.log2 ≤ (T - i).toNat := by
    rcases log2_le_of_lt (Nat.lt_of_le_of_lt h2 (Nat.pow_lt_pow_right (by omega) (Nat.lt_succ_self _))) with h | h
    · exact absurd h hm
    · exact h
  generalize hmo : q + n.log2 - m.log2 = more at hmore
  rw [Nat.shiftLeft_eq]
  have hn' : 2 ^ n.log2 ≤ n := Nat.log2_self_le hn
  right
  refine ⟨by omega, ?_⟩
  -- W: the bound in whole units of the quotient
  obtain ⟨K, hK⟩ : ∃ K : Nat, (K : Int) = T - L - (i - j - more) := ⟨(T - L - (i - j - more)).toNat, by omega⟩
  rw [show (T - L - (i - j - (more : Int) - 1)).toNat = K + 1 by omega, Nat.pow_succ]
  have hle : m * 2 ^ more ≤ 2 ^ K * n := by
    refine Nat.le_trans (Nat.mul_le_mul_right _ h2) ?_
    rw [← Nat.pow_add]
    refine Nat.le_trans ?_ (Nat.mul_le_mul_left _ hn')
    rw [← Nat.pow_add]
    exact Nat.pow_le_pow_right (by omega) (by omega)
  have hdm := Nat.div_add_mod (m * 2 ^ more) n
  have hnp : 0 < n := by omega
  have hd : m * 2 ^ more / n ≤ 2 ^ K := Nat.div_le_of_le_mul (by rw [Nat.mul_comm n]; exact hle)
  by_cases hr : m * 2 ^ more % n = 0
  · simp only [hr, bne_self_eq_false, Bool.toNat_false]; omega
  · have hlt : m * 2 ^ more / n < 2 ^ K := by
      rcases Nat.lt_or_eq_of_le hd with h | h
      · exact h
      · rw [h, Nat.mul_comm] at hdm; omega
    have : (m * 2 ^ more % n != 0) = true := by simpa using hr
    rw [this]
    simp only [Bool.toNat_true]; omega

theorem Lb.add {k : FloatKind} {c d : Option Nat} {T : Int} (hc : Lb k c T) (hd : Lb k d T) (h1 : InR k (T + 1)) : Lb k (cop .add k c d) (T + 1) := by
  intro r hr
  cases c with
  | none => cases hr
  | some x =>
  cases d with
  | none => cases hr
  | some y =>
    simp only [cop, floatBits] at hr
    obtain ⟨e, he, rfl⟩ := Option.map_eq_some_iff.1 hr
    exact write_Db k (Db.sum (hc x rfl) (hd y rfl) he) h1

theorem Lb.sub {k : FloatKind} {c d : Option Nat} {T : Int} (hc : Lb k c T) (hd : Lb k d T) (h1 : InR k (T + 1)) : Lb k (cop .sub k c d) (T + 1) := by
  intro r hr
  cases c with
  | none => cases hr
  | some x =>
  cases d with
  | none => cases hr
  | some y =>
    simp only [cop, floatBits] at hr
    obtain ⟨e, he, rfl⟩ := Option.map_eq_some_iff.1 hr
    exact write_Db k (Db.sum (hc x rfl) (hd y rfl).opposite he) h1

theorem Lb.mul {k : FloatKind} {c d : Option Nat} {T U : Int} (hc : Lb k c T) (hd : Lb k d U) (h1 : InR k (T + U)) : Lb k (cop .mul k c d) (T + U) := by
  intro r hr
  cases c with
  | none => cases hr
  | some x =>
  cases d with
  | none => cases hr
  | some y =>
    simp only [cop, floatBits] at hr
    obtain ⟨e, he, rfl⟩ := Option.map_eq_some_iff.1 hr
    exact write_Db k (Db.product (hc x rfl) (hd y rfl) he) h1

/-- if c is some y, y is at least 2^L in magnitude -/
def Lo (k : FloatKind) (c : Option Nat) (L : Int) : Prop := ∀ y, c = some y → Al (k.decode y) L

theorem Lb.quo {k : FloatKind} {c d : Option Nat} {T L : Int} (hc : Lb k c T) (hd : Lo k d L) (h1 : InR k (T - L)) : Lb k (cop .quo k c d) (T - L) := by
  intro r hr
  cases c with
  | none => cases hr
  | some x =>
  cases d with
  | none => cases hr
  | some y =>
    simp only [cop, floatBits] at hr
    obtain ⟨e, he, rfl⟩ := Option.map_eq_some_iff.1 hr
    exact write_Db k (Db.quotient (hc x rfl) (hd y rfl) (by cases k <;> decide) he) h1

/-! at least so great -/
theorem nearest_Al (f : Ieee.Format) (neg : Bool) (m : Nat) (p : Int) (L : Int) (hm : m ≠ 0) (h : L ≤ p + (m.log2 : Int)) (hlo : f.leastPlace + f.fractionBits ≤ L) (hb : 0 < f.fractionBits)
    (hBI : f.binade ≤ f.infRung) (hfin : (f.read (f.nearest neg m p)).isInfinity = false) : Al (f.read (f.nearest neg m p)) L := by
  have hbp : 0 < f.binade := Nat.two_pow_pos _
  obtain ⟨r, hr, hr2⟩ : ∃ r, f.nearest neg m p = f.word neg (min r f.infRung) ∧ ((L - f.fractionBits - f.leastPlace).toNat + 1) * f.binade ≤ r := by
    unfold Ieee.Format.nearest
    dsimp only
    rw [if_neg hm]
    refine ⟨_, rfl, ?_⟩
    generalize hl : max (p + (m.log2 : Int) - f.fractionBits) f.leastPlace = last
    have hlast : last = p + (m.log2 : Int) - f.fractionBits := by omega
    -- what is kept is at least a full significand
    have hk : f.binade ≤ Ieee.Toward.even.cut neg (m <<< (p - last).toNat) (last - p).toNat := by
      unfold Ieee.Toward.cut
      refine Nat.le_trans ?_ (Nat.le_add_right _ _)
      simp only [Nat.one_shiftLeft]
      rw [log2_shift m _ hm, Nat.le_div_iff_mul_le (Nat.two_pow_pos _), Nat.shiftLeft_eq]
      unfold Ieee.Format.binade
      rw [← Nat.pow_add]
      refine Nat.le_trans ?_ (Nat.mul_le_mul_right _ (Nat.log2_self_le hm))
      rw [← Nat.pow_add]
      exact Nat.pow_le_pow_right (by omega) (by omega)
    rw [Nat.add_mul, Nat.one_mul]
    refine Nat.add_le_add (Nat.mul_le_mul_right _ (by omega)) hk
  rw [hr] at hfin ⊢
  have hs := f.infRung_lt
  have hle := Nat.min_le_right r f.infRung
  have hmin : min r f.infRung = r ∨ min r f.infRung = f.infRung := by omega
  generalize min r f.infRung = R at hle hmin hfin
  have hw : f.word neg R % f.signWeight = R := by
    unfold Ieee.Format.word
    split
    · rw [Nat.add_mod_left, Nat.mod_eq_of_lt (by omega)]
    · exact Nat.mod_eq_of_lt (by omega)
  unfold Ieee.Format.read at hfin ⊢
  simp only [hw] at hfin ⊢
  have hRB : f.binade ≤ ((L - f.fractionBits - f.leastPlace).toNat + 1) * f.binade := Nat.le_mul_of_pos_left _ (by omega)
  by_cases h1 : R = f.infRung
  · subst h1
    by_cases h2 : f.infRung < f.binade
    · omega
    · rw [if_neg h2, if_neg (by omega), if_pos rfl] at hfin; cases hfin
  · have hR : R = r := by omega
    subst hR
    rw [if_neg (by omega), if_pos (by omega)]
    refine ⟨_, _, _, rfl, by omega, ?_⟩
    have hd : (L - f.fractionBits - f.leastPlace).toNat + 1 ≤ R / f.binade := (Nat.le_div_iff_mul_le hbp).2 hr2
    have hl : f.fractionBits ≤ (f.binade + R % f.binade).log2 := (Nat.le_log2 (by omega)).2 (by unfold Ieee.Format.binade; omega)
    omega
end Go.Proofs.YticeapacffgikaaGreatDoor
