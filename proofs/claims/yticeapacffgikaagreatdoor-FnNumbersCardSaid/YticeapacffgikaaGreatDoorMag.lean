/- Plain laws of floating-point numbers: how great a result can be. No condition. -/
import Derived.Test.YticeapacffgikaaGreatDoorFl
namespace Go.Proofs.YticeapacffgikaaGreatDoor
set_option maxRecDepth 100000

/-! how great: 'Lg k c T': if c is some x, x is a finite number below 2^(T+1) -/
def Dl (d : Ieee.Datum) (T : Int) : Prop := ∃ s m e, d = .number s m e ∧ (m = 0 ∨ e + (m.log2 : Int) ≤ T)
def Lg (k : FloatKind) (c : Option Nat) (T : Int) : Prop := ∀ x, c = some x → Dl (k.decode x) T

theorem Dl.mono {d : Ieee.Datum} {T U : Int} (h : Dl d T) (hu : T ≤ U) : Dl d U := by
  obtain ⟨s, m, e, rfl, h⟩ := h
  exact ⟨s, m, e, rfl, h.imp id (fun h => by omega)⟩
theorem Lg.mono {k : FloatKind} {c : Option Nat} {T U : Int} (h : Lg k c T) (hu : T ≤ U) : Lg k c U := fun x hx => (h x hx).mono hu

theorem log2_lt (m : Nat) : m < 2 ^ (m.log2 + 1) := Nat.lt_log2_self
theorem log2_le_of_lt {m a : Nat} (h : m < 2 ^ (a + 1)) : m = 0 ∨ m.log2 ≤ a := by
  rcases Nat.eq_zero_or_pos m with h0 | h0
  · exact .inl h0
  · right
    have := (Nat.log2_lt (by omega)).2 h
    omega

theorem cut_le (neg : Bool) (n drop : Nat) : Ieee.Toward.even.cut neg n drop ≤ n / 2 ^ (min drop (n.log2 + 2)) + 1 := by
  unfold Ieee.Toward.cut
  simp only [Nat.one_shiftLeft]
  have : ∀ b : Bool, b.toNat ≤ 1 := by decide
  have h := this (decide (2 ^ min drop (n.log2 + 2) < 2 * (n % 2 ^ min drop (n.log2 + 2))) || (2 ^ min drop (n.log2 + 2) == 2 * (n % 2 ^ min drop (n.log2 + 2)) && n / 2 ^ min drop (n.log2 + 2) % 2 == 1))
  exact Nat.add_le_add_left h _

/-- the significand that is kept has at most one digit more than the fraction, or is the next power of two -/
theorem kept_le (f : Ieee.Format) (neg : Bool) (m : Nat) (p : Int) :
    Ieee.Toward.even.cut neg (m <<< (p - max (p + m.log2 - f.fractionBits) f.leastPlace).toNat) (max (p + m.log2 - f.fractionBits) f.leastPlace - p).toNat ≤ 2 * f.binade := by
  generalize hl : max (p + (m.log2 : Int) - f.fractionBits) f.leastPlace = last
  have hlast : p + (m.log2 : Int) - f.fractionBits ≤ last := by omega
  have hmlt := log2_lt m
  refine Nat.le_trans (cut_le ..) ?_
  unfold Ieee.Format.binade
  have hpow : 2 * 2 ^ f.fractionBits = 2 ^ (f.fractionBits + 1) := by rw [Nat.pow_succ]; omega
  rw [hpow]
  refine Nat.succ_le_of_lt ?_
  rw [Nat.div_lt_iff_lt_mul (Nat.two_pow_pos _), ← Nat.pow_add, Nat.shiftLeft_eq]
  rcases Int.le_total last p with h | h
  · have e1 : (last - p).toNat = 0 := by omega
    rw [e1, Nat.zero_min, Nat.add_zero]
    refine Nat.lt_of_lt_of_le (Nat.mul_lt_mul_of_pos_right hmlt (Nat.two_pow_pos _)) ?_
    rw [← Nat.pow_add]
    exact Nat.pow_le_pow_right (by omega) (by omega)
  · have e1 : (p - last).toNat = 0 := by omega
    rw [e1]
    simp only [Nat.pow_zero, Nat.mul_one]
    refine Nat.lt_of_lt_of_le hmlt (Nat.pow_le_pow_right (by omega) ?_)
    omega

theorem nearest_word (f : Ieee.Format) (neg : Bool) (m : Nat) (p : Int) (hm : m ≠ 0) (T : Int) (hT : p + (m.log2 : Int) ≤ T) (hlo : f.leastPlace + f.fractionBits ≤ T) :
    ∃ r, f.nearest neg m p = f.word neg r ∧ r ≤ ((T - f.fractionBits - f.leastPlace).toNat + 2) * f.binade ∧ r ≤ f.infRung := by
  unfold Ieee.Format.nearest
  dsimp only
  rw [if_neg hm]
  refine ⟨_, rfl, ?_, Nat.min_le_right ..⟩
  refine Nat.le_trans (Nat.min_le_left ..) ?_
  have hk := kept_le f neg m p
  rw [Nat.add_mul]
  refine Nat.add_le_add (Nat.mul_le_mul_right _ ?_) hk
  omega

theorem read_of_rung (f : Ieee.Format) (neg : Bool) (r : Nat) (T : Int) (hr : r ≤ f.infRung) (hlo : f.leastPlace + f.fractionBits ≤ T) (hb : 0 < f.fractionBits)
    (h : r ≤ ((T - f.fractionBits - f.leastPlace).toNat + 1) * f.binade) (hfin : ((T - f.fractionBits - f.leastPlace).toNat + 1) * f.binade < f.infRung) : Dl (f.read (f.word neg r)) T := by
  have hs := f.infRung_lt
  have hbp : 0 < f.binade := Nat.two_pow_pos _
  have hw : f.word neg r % f.signWeight = r := by
    unfold Ieee.Format.word
    split
    · rw [Nat.add_mod_left, Nat.mod_eq_of_lt (by omega)]
    · exact Nat.mod_eq_of_lt (by omega)
  unfold Ieee.Format.read
  simp only [hw]
  split
  · rename_i hlt
    refine ⟨_, _, _, rfl, ?_⟩
    have : r < 2 ^ (f.fractionBits - 1 + 1) := by rw [Nat.sub_add_cancel hb]; exact hlt
    rcases log2_le_of_lt this with h0 | h0
    · exact .inl h0
    · right; omega
  · rename_i hge
    rw [if_pos (by omega)]
    refine ⟨_, _, _, rfl, .inr ?_⟩
    have hmod := Nat.mod_lt r hbp
    have hsum : f.binade + r % f.binade < 2 ^ (f.fractionBits + 1) := by
      rw [Nat.pow_succ]; unfold Ieee.Format.binade at *; omega
    have hdiv : r / f.binade ≤ (T - f.fractionBits - f.leastPlace).toNat + 1 := by
      have := Nat.div_le_div_right (c := f.binade) h
      rwa [Nat.mul_div_cancel _ hbp] at this
    rcases log2_le_of_lt hsum with h0 | h0
    · omega
    · have hd1 : 1 ≤ r / f.binade := (Nat.le_div_iff_mul_le hbp).2 (by omega)
      omega

theorem nearest_Dl (f : Ieee.Format) (neg : Bool) (m : Nat) (p : Int) (T : Int) (h : m = 0 ∨ p + (m.log2 : Int) ≤ T) (hlo : f.leastPlace + f.fractionBits ≤ T) (hb : 0 < f.fractionBits)
    (hfin : ((T - f.fractionBits - f.leastPlace).toNat + 2) * f.binade < f.infRung) : Dl (f.read (f.nearest neg m p)) (T + 1) := by
  have e : ((T + 1 - f.fractionBits - f.leastPlace).toNat + 1) = (T - f.fractionBits - f.leastPlace).toNat + 2 := by omega
  by_cases hm : m = 0
  · unfold Ieee.Format.nearest
    rw [if_pos hm]
    refine read_of_rung f neg 0 (T + 1) (Nat.zero_le _) (by omega) hb (Nat.zero_le _) (by rw [e]; exact hfin)
  · obtain ⟨r, hr, h1, h2⟩ := nearest_word f neg m p hm T (h.resolve_left hm) hlo
    rw [hr]
    exact read_of_rung f neg r (T + 1) h2 (by omega) hb (by rw [e]; exact h1) (by rw [e]; exact hfin)

theorem f32_least : FloatKind.f32.format.leastPlace = -149 := by rfl
theorem f64_least : FloatKind.f64.format.leastPlace = -1074 := by rfl
theorem f32_frac : FloatKind.f32.format.fractionBits = 23 := by rfl
theorem f64_frac : FloatKind.f64.format.fractionBits = 52 := by rfl
theorem f32_bin : FloatKind.f32.format.binade = 8388608 := by rfl
theorem f64_bin : FloatKind.f64.format.binade = 4503599627370496 := by rfl

/-- the greatest T at which a bound still keeps a result finite -/
def top : FloatKind → Int | .f32 => 125 | .f64 => 1021

theorem write_Dl (k : FloatKind) {d : Ieee.Datum} {T : Int} (h : Dl d T) (h0 : 0 ≤ T) (h1 : T ≤ top k) : Dl (k.decode (k.encode d)) (T + 1) := by
  obtain ⟨s, m, e, rfl, h⟩ := h
  unfold FloatKind.decode FloatKind.encode Ieee.Format.write
  refine nearest_Dl k.format s m e T h ?_ ?_ ?_
  · cases k
    · rw [f32_least, f32_frac]; omega
    · rw [f64_least, f64_frac]; omega
  · cases k <;> decide
  · cases k
    · simp only [top] at h1
      rw [f32_least, f32_frac, f32_bin, f32_inf]; omega
    · simp only [top] at h1
      rw [f64_least, f64_frac, f64_bin, f64_inf]; omega

theorem Dl.not_inf {d : Ieee.Datum} {T : Int} (h : Dl d T) : d.isInfinity = false := by
  obtain ⟨s, m, e, rfl, _⟩ := h; rfl

def wide : FloatKind → Int | .f32 => 127 | .f64 => 1023
def lastB : FloatKind → Nat | .f32 => 254 | .f64 => 2046
theorem inf_lastB (k : FloatKind) : k.format.infRung = lastB k * k.format.binade + k.format.binade := by
  cases k
  · rw [f32_inf, f32_bin]; simp [lastB]
  · rw [f64_inf, f64_bin]; simp [lastB]
/-- every number that is finite lies below 2^128, or 2^1024 -/
theorem decode_Dl (k : FloatKind) (x : Nat) {s : Bool} {m : Nat} {e : Int} (h : k.decode x = .number s m e) : Dl (k.decode x) (wide k) := by
  refine ⟨s, m, e, h, ?_⟩
  have hinf := inf_lastB k
  have hbp : 0 < k.format.binade := Nat.two_pow_pos _
  unfold FloatKind.decode Ieee.Format.read at h
  dsimp only at h
  generalize x % k.format.signWeight = r at h
  split at h
  · rename_i hlt
    cases h
    have : m < 2 ^ (k.format.fractionBits - 1 + 1) := by
      rw [Nat.sub_add_cancel (by cases k <;> decide)]; exact hlt
    rcases log2_le_of_lt this with h0 | h0
    · exact .inl h0
    · right
      cases k
      · rw [f32_frac] at h0; rw [f32_least]; simp only [wide]; omega
      · rw [f64_frac] at h0; rw [f64_least]; simp only [wide]; omega
  · split at h
    · rename_i hge hlt
      cases h
      right
      have hmod := Nat.mod_lt r hbp
      have hsum : k.format.binade + r % k.format.binade < 2 ^ (k.format.fractionBits + 1) := by
        rw [Nat.pow_succ]; unfold Ieee.Format.binade at *; omega
      have hdiv : r / k.format.binade ≤ lastB k := by
        refine Nat.le_of_lt_succ ((Nat.div_lt_iff_lt_mul hbp).2 ?_)
        cases k
        · rw [f32_bin]; rw [f32_bin] at hinf; simp only [lastB] at hinf ⊢; omega
        · rw [f64_bin]; rw [f64_bin] at hinf; simp only [lastB] at hinf ⊢; omega
      have hd1 : 1 ≤ r / k.format.binade := (Nat.le_div_iff_mul_le hbp).2 (by omega)
      rcases log2_le_of_lt hsum with h0 | h0
      · omega
      · cases k
        · rw [f32_frac] at h0; rw [f32_least]; simp only [lastB, wide] at hdiv ⊢; omega
        · rw [f64_frac] at h0; rw [f64_least]; simp only [lastB, wide] at hdiv ⊢; omega
    · split at h <;> cases h

theorem fits_up (c : Option Nat) : Fits .f32 .f64 c := by
  cases c with
  | none => trivial
  | some x =>
    intro g m e h
    have h1 := decode_Dl .f32 x h
    rw [h] at h1
    exact (write_Dl .f64 h1 (by decide) (by decide)).not_inf

/-- A 64-bit number below 2^126 is narrowed to a finite one. -/
theorem fits_down {c : Option Nat} {T : Int} (h : Lg .f64 c T) (h0 : 0 ≤ T) (h1 : T ≤ 125) : Fits .f64 .f32 c := by
  cases c with
  | none => trivial
  | some x =>
    intro g m e hx
    have h2 := h x rfl
    rw [hx] at h2
    exact (write_Dl .f32 h2 h0 h1).not_inf

/-! the operations -/
open Ieee in
theorem Dl.sum {x y d : Datum} {T : Int} (hx : Dl x T) (hy : Dl y T) (h : x.sum y = some d) : Dl d (T + 1) := by
  obtain ⟨s, m, i, rfl, hx⟩ := hx
  obtain ⟨t, n, j, rfl, hy⟩ := hy
  simp only [Datum.sum, Option.some.injEq] at h
  subst h
  refine ⟨_, _, _, rfl, ?_⟩
  have hs : ∀ (s : Bool) (m a : Nat), (signed s m a).natAbs = m * 2 ^ a := by
    intro s m a; unfold signed; split <;> (rw [Nat.shiftLeft_eq]; first | rw [Int.natAbs_neg, Int.natAbs_natCast] | rw [Int.natAbs_natCast])
  have hle := Int.natAbs_add_le (signed s m (i - min i j).toNat) (signed t n (j - min i j).toNat)
  rw [hs, hs] at hle
  generalize hM : (signed s m (i - min i j).toNat + signed t n (j - min i j).toNat).natAbs = M at hle ⊢
  by_cases hT : T + 1 - min i j < 0
  · -- both are nought
    left
    have e1 : m = 0 := by
      rcases hx with h | h
      · exact h
      · omega
    have e2 : n = 0 := by
      rcases hy with h | h
      · exact h
      · omega
    subst e1; subst e2
    simpa using hle
  have b1 : m * 2 ^ (i - min i j).toNat < 2 ^ ((T + 1 - min i j).toNat) ∨ m = 0 := by
    rcases hx with h | h
    · exact .inr h
    · left
      refine Nat.lt_of_lt_of_le (Nat.mul_lt_mul_of_pos_right (log2_lt m) (Nat.two_pow_pos _)) ?_
      rw [← Nat.pow_add]
      exact Nat.pow_le_pow_right (by omega) (by omega)
  have b2 : n * 2 ^ (j - min i j).toNat < 2 ^ ((T + 1 - min i j).toNat) ∨ n = 0 := by
    rcases hy with h | h
    · exact .inr h
    · left
      refine Nat.lt_of_lt_of_le (Nat.mul_lt_mul_of_pos_right (log2_lt n) (Nat.two_pow_pos _)) ?_
      rw [← Nat.pow_add]
      exact Nat.pow_le_pow_right (by omega) (by omega)
  have hp : 0 < 2 ^ ((T + 1 - min i j).toNat) := Nat.two_pow_pos _
  have b1' : m * 2 ^ (i - min i j).toNat < 2 ^ ((T + 1 - min i j).toNat) := by
    rcases b1 with h | h
    · exact h
    · subst h; simpa using hp
  have b2' : n * 2 ^ (j - min i j).toNat < 2 ^ ((T + 1 - min i j).toNat) := by
    rcases b2 with h | h
    · exact h
    · subst h; simpa using hp
  have hM' : M < 2 ^ ((T + 1 - min i j).toNat + 1) := by
    rw [Nat.pow_succ]; omega
  rcases log2_le_of_lt hM' with h | h
  · exact .inl h
  · right; omega

open Ieee in
theorem Dl.opposite {y : Datum} {T : Int} (h : Dl y T) : Dl y.opposite T := by
  obtain ⟨s, m, i, rfl, h⟩ := h; exact ⟨!s, m, i, rfl, h⟩

open Ieee in
theorem Dl.product {x y d : Datum} {T U : Int} (hx : Dl x T) (hy : Dl y U) (h : x.product y = some d) : Dl d (T + U + 1) := by
  obtain ⟨s, m, i, rfl, hx⟩ := hx
  obtain ⟨t, n, j, rfl, hy⟩ := hy
  simp only [Datum.product, Option.some.injEq] at h
  subst h
  refine ⟨_, _, _, rfl, ?_⟩
  rcases hx with h | hx
  · left; simp [h]
  rcases hy with h | hy
  · left; simp [h]
  have : m * n < 2 ^ (m.log2 + n.log2 + 1 + 1) := by
    have := Nat.mul_lt_mul'' (log2_lt m) (log2_lt n)
    rw [← Nat.pow_add] at this
    rwa [show m.log2 + n.log2 + 1 + 1 = m.log2 + 1 + (n.log2 + 1) by omega]
  rcases log2_le_of_lt this with h | h
  · exact .inl h
  · right; omega

/-- at least 2^L, and no not-a-number -/
def Al (d : Ieee.Datum) (L : Int) : Prop := ∃ s m e, d = .number s m e ∧ m ≠ 0 ∧ L ≤ e + (m.log2 : Int)

open Ieee in
theorem Dl.quotient {x y d : Datum} {q : Nat} {T L : Int} (hx : Dl x T) (hy : Al y L) (h : x.quotient q y = some d) : Dl d (T - L + 1) := by
  obtain ⟨s, m, i, rfl, hx⟩ := hx
  obtain ⟨t, n, j, rfl, hn, hy⟩ := hy
  simp only [Datum.quotient, if_neg hn, Option.some.injEq] at h
  subst h
  refine ⟨_, _, _, rfl, ?_⟩
  have hmore : n.log2 ≤ m.log2 + (q + n.log2 - m.log2) := by omega
  generalize q + n.log2 - m.log2 = more at hmore
  rw [Nat.shiftLeft_eq]
  rcases hx with h | hx
  · left; subst h; simp
  have hb : ∀ b : Bool, b.toNat ≤ 1 := by decide
  have h1 := hb (m * 2 ^ more % n != 0)
  have hn' : 2 ^ n.log2 ≤ n := Nat.log2_self_le hn
  have hlt : m * 2 ^ more < 2 ^ (m.log2 + 1 + more) := by
    rw [Nat.pow_add]; exact Nat.mul_lt_mul_of_pos_right (log2_lt m) (Nat.two_pow_pos _)
  have hq : m * 2 ^ more / n < 2 ^ (m.log2 + 1 + more - n.log2) := by
    rw [Nat.div_lt_iff_lt_mul (by omega)]
    refine Nat.lt_of_lt_of_le hlt ?_
    refine Nat.le_trans ?_ (Nat.mul_le_mul_left _ hn')
    rw [← Nat.pow_add]
    exact Nat.pow_le_pow_right (by omega) (by omega)
  have : 2 * (m * 2 ^ more / n) + (m * 2 ^ more % n != 0).toNat < 2 ^ (m.log2 + 1 + more - n.log2 + 1) := by
    rw [Nat.pow_succ]; omega
  rcases log2_le_of_lt this with h | h
  · exact .inl h
  · right; omega

theorem Lg.cop_add {k : FloatKind} {c d : Option Nat} {T : Int} (hc : Lg k c T) (hd : Lg k d T) (h0 : 0 ≤ T) (h1 : T + 1 ≤ top k) : Lg k (cop .add k c d) (T + 2) := by
  intro r hr
  cases c with
  | none => cases hr
  | some x =>
  cases d with
  | none => cases hr
  | some y =>
    simp only [cop, floatBits] at hr
    obtain ⟨e, he, rfl⟩ := Option.map_eq_some_iff.1 hr
    have := write_Dl k (Dl.sum (hc x rfl) (hd y rfl) he) (by omega) h1
    rwa [show T + 2 = T + 1 + 1 by omega]

theorem Lg.cop_sub {k : FloatKind} {c d : Option Nat} {T : Int} (hc : Lg k c T) (hd : Lg k d T) (h0 : 0 ≤ T) (h1 : T + 1 ≤ top k) : Lg k (cop .sub k c d) (T + 2) := by
  intro r hr
  cases c with
  | none => cases hr
  | some x =>
  cases d with
  | none => cases hr
  | some y =>
    simp only [cop, floatBits] at hr
    obtain ⟨e, he, rfl⟩ := Option.map_eq_some_iff.1 hr
    have := write_Dl k (Dl.sum (hc x rfl) (hd y rfl).opposite he) (by omega) h1
    rwa [show T + 2 = T + 1 + 1 by omega]

theorem Lg.cop_mul {k : FloatKind} {c d : Option Nat} {T U : Int} (hc : Lg k c T) (hd : Lg k d U) (h0 : 0 ≤ T + U + 1) (h1 : T + U + 1 ≤ top k) : Lg k (cop .mul k c d) (T + U + 2) := by
  intro r hr
  cases c with
  | none => cases hr
  | some x =>
  cases d with
  | none => cases hr
  | some y =>
    simp only [cop, floatBits] at hr
    obtain ⟨e, he, rfl⟩ := Option.map_eq_some_iff.1 hr
    have := write_Dl k (Dl.product (hc x rfl) (hd y rfl) he) h0 h1
    rwa [show T + U + 2 = T + U + 1 + 1 by omega]

theorem Lg.cop_quo {k : FloatKind} {c : Option Nat} {y : Nat} {T L : Int} (hc : Lg k c T) (hy : Al (k.decode y) L) (h0 : 0 ≤ T - L + 1) (h1 : T - L + 1 ≤ top k) : Lg k (cop .quo k c (some y)) (T - L + 2) := by
  intro r hr
  cases c with
  | none => cases hr
  | some x =>
    simp only [cop, floatBits] at hr
    obtain ⟨e, he, rfl⟩ := Option.map_eq_some_iff.1 hr
    have := write_Dl k (Dl.quotient (hc x rfl) hy he) h0 h1
    rwa [show T - L + 2 = T - L + 1 + 1 by omega]
end Go.Proofs.YticeapacffgikaaGreatDoor
