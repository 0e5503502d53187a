/- Plain laws of floating-point numbers: the logarithm is narrowed to a finite number. No condition. -/
import Derived.Test.YtkemghecglbleaaGreatDoorLo
import Derived.Test.YtkemghecglbleaaGreatDoorYa
namespace Go.Proofs.YtkemghecglbleaaGreatDoor
set_option maxRecDepth 100000

theorem Lb_rung {x : Nat} {T : Int} (hx : x < 18446744073709551616) (h0 : -1022 ≤ T) (h1 : T ≤ 1022) (h : x % 9223372036854775808 ≤ (T + 1023).toNat * 4503599627370496) : Lb .f64 (some x) T := by
  intro y hy
  cases hy
  have hw := word_split .f64 x (by rw [f64_sign]; omega)
  have hle : x % FloatKind.f64.format.signWeight ≤ FloatKind.f64.format.infRung := by rw [f64_sign, f64_inf]; omega
  rw [hw]
  clear hw
  refine read_Db FloatKind.f64.format _ _ T hle ?_ (by decide) ?_ ?_
  · rw [f64_least, f64_frac]; omega
  · rw [f64_least, f64_frac, f64_bin, f64_sign]
    have e : (T - ((52 : Nat) : Int) - -1074).toNat + 1 = (T + 1023).toNat := by omega
    rw [e]
    exact h
  · rw [f64_least, f64_frac, f64_bin, f64_inf]; omega

theorem Lb_none {k : FloatKind} {T : Int} : Lb k none T := fun _ h => by cases h

/-- at least 2^L, told by its word -/
theorem Lo_rung {x : Nat} {L : Int} (h0 : -1022 ≤ L) (h1 : (L + 1023).toNat * 4503599627370496 ≤ x) (h2 : x < 9218868437227405312) : Lo .f64 (some x) L := by
  intro y hy
  cases hy
  have hx : 4503599627370496 ≤ x := by omega
  rw [read64 x hx h2]
  have hmod := Nat.mod_lt x (show 0 < 4503599627370496 by omega)
  have hl : (4503599627370496 + x % 4503599627370496).log2 = 52 := sig_log2 _ hmod
  refine ⟨_, _, _, rfl, by omega, ?_⟩
  rw [hl]
  omega

theorem bin_le_inf64 : FloatKind.f64.format.binade ≤ FloatKind.f64.format.infRung := by rw [f64_bin, f64_inf]; omega

theorem sum_nat (a b : Nat) (h : 0 < b) : ((a : Int) + (b : Int)).natAbs = a + b ∧ ¬ ((a : Int) + (b : Int)) = 0 ∧ decide (((a : Int) + (b : Int)) < 0) = false := by
  refine ⟨by omega, by omega, ?_⟩
  simp; omega

open Ieee in
/-- a sum of numbers that are not negative is at least each of them -/
theorem Lo_add {X Y : Nat} {L : Int} (hX : X < 9218868437227405312) (hY1 : 4503599627370496 ≤ Y) (hY2 : Y < 9218868437227405312) (h0 : -1022 ≤ L) (h1 : (L + 1023).toNat * 4503599627370496 ≤ Y)
    (hfin : ∀ r, cop .add .f64 (some X) (some Y) = some r → (FloatKind.f64.decode r).isInfinity = false) : Lo .f64 (cop .add .f64 (some X) (some Y)) L := by
  intro r hr
  have hfin := hfin r hr
  simp only [cop, floatBits] at hr
  have hy := read64 Y hY1 hY2
  obtain ⟨m, e, hx, le, _⟩ := read_num .f64 X (by rw [f64_sign]; omega) (by rw [f64_sign, f64_inf, Nat.mod_eq_of_lt (by omega)]; exact hX)
  have hsx : sgn .f64 X = false := by unfold sgn; rw [f64_sign]; simp; omega
  rw [hsx] at hx
  obtain ⟨d, hd, rfl⟩ := Option.map_eq_some_iff.1 hr
  have hd' : (Datum.number false m e).sum (.number false (4503599627370496 + Y % 4503599627370496) (-1074 + (Y / 4503599627370496 - 1 : Nat))) = some d := by rw [← hx, ← hy]; exact hd
  have hmod := Nat.mod_lt Y (show 0 < 4503599627370496 by omega)
  have hl : (4503599627370496 + Y % 4503599627370496).log2 = 52 := sig_log2 _ hmod
  have hn0 : 4503599627370496 + Y % 4503599627370496 ≠ 0 := by omega
  have hYd : (L + 1023 : Int) ≤ (Y / 4503599627370496 : Nat) := by omega
  generalize 4503599627370496 + Y % 4503599627370496 = n at hd' hl hn0
  generalize hj : (-1074 + ((Y / 4503599627370496 - 1 : Nat) : Int)) = j at hd'
  simp only [Datum.sum, Option.some.injEq] at hd'
  subst hd'
  have hs : ∀ (m a : Nat), signed false m a = ((m * 2 ^ a : Nat) : Int) := by intro m a; rw [signed_eq]; simp
  rw [hs, hs] at hfin ⊢
  have hp : 0 < 2 ^ (j - min e j).toNat := Nat.two_pow_pos _
  have hnp : 0 < n := by omega
  have hpos : 0 < n * 2 ^ (j - min e j).toNat := Nat.mul_pos hnp hp
  obtain ⟨hM, hz, hneg⟩ := sum_nat (m * 2 ^ (e - min e j).toNat) (n * 2 ^ (j - min e j).toNat) hpos
  rw [hM, if_neg hz, hneg] at hfin ⊢
  refine nearest_Al FloatKind.f64.format false _ _ L (by omega) ?_ (by rw [f64_least, f64_frac]; omega) (by decide) bin_le_inf64 hfin
  have hge : n * 2 ^ (j - min e j).toNat ≤ m * 2 ^ (e - min e j).toNat + n * 2 ^ (j - min e j).toNat := Nat.le_add_left _ _
  have hlog : (n * 2 ^ (j - min e j).toNat).log2 ≤ (m * 2 ^ (e - min e j).toNat + n * 2 ^ (j - min e j).toNat).log2 :=
    (Nat.le_log2 (by omega)).2 (Nat.le_trans (Nat.log2_self_le (by omega)) hge)
  rw [log2_mul_pow _ _ hn0, hl] at hlog
  omega

theorem one_Lb : Lb .f64 (some 4607182418800017408) 0 := Lb_rung (by omega) (by omega) (by omega) (by decide)
theorem two_Lb : Lb .f64 (some 4611686018427387904) 1 := Lb_rung (by omega) (by omega) (by omega) (by decide)
theorem ln2_Lb : Lb .f64 (some 4604418534313441775) 0 := Lb_rung (by omega) (by omega) (by omega) (by decide)
theorem zero_Lb {T : Int} (h0 : -1022 ≤ T) (h1 : T ≤ 1022) : Lb .f64 (some 0) T := Lb_rung (by omega) h0 h1 (by simp)

theorem inR {T : Int} (h0 : -1022 < T) (h1 : T ≤ 1022) : InR .f64 T := ⟨h0, h1⟩

theorem fi_small : ∀ j : Fin 401, fi ((j.val : Int) - 200) % 9223372036854775808 ≤ 1031 * 4503599627370496 := by decide +kernel
theorem fi_Lb (n : Int) (h1 : -200 ≤ n) (h2 : n ≤ 200) : Lb .f64 (some (fi n)) 8 := by
  have h := fi_small ⟨(n + 200).toNat, by omega⟩
  have hb := (fi_bd ⟨(n + 200).toNat, by omega⟩).1
  dsimp only at h hb
  rw [show (((n + 200).toNat : Nat) : Int) - 200 = n by omega] at h hb
  exact Lb_rung hb (by omega) (by omega) (by simpa using h)
theorem k_low : ∀ j : Fin 13, 1023 * 4503599627370496 ≤ fi (25 - 2 * (j.val : Int)) ∧ fi (25 - 2 * (j.val : Int)) < 9218868437227405312 := by decide +kernel

/-- some finite number of magnitude at most 2^T -/
def Fb (k : FloatKind) (c : Option Nat) (T : Int) : Prop := ∃ x, c = some x ∧ Db (k.decode x) T
theorem Fb.Lb {k : FloatKind} {c : Option Nat} {T : Int} (h : Fb k c T) : Lb k c T := by
  obtain ⟨x, rfl, h⟩ := h
  intro y hy; cases hy; exact h
theorem Fb.mono {k : FloatKind} {c : Option Nat} {T U : Int} (h : Fb k c T) (hu : T ≤ U) : Fb k c U := by
  obtain ⟨x, rfl, h⟩ := h; exact ⟨x, rfl, h.mono hu⟩
theorem Fb.of {k : FloatKind} {x : Nat} {T : Int} (h : Proofs.YtkemghecglbleaaGreatDoor.Lb k (some x) T) : Fb k (some x) T := ⟨x, rfl, h x rfl⟩

theorem Fb.add {k : FloatKind} {c d : Option Nat} {T : Int} (hc : Fb k c T) (hd : Fb k d T) (h1 : InR k (T + 1)) : Fb k (cop .add k c d) (T + 1) := by
  obtain ⟨x, rfl, hx⟩ := hc
  obtain ⟨y, rfl, hy⟩ := hd
  have hx' := hx; have hy' := hy
  obtain ⟨s, m, i, ex, _⟩ := hx'
  obtain ⟨t, n, j, ey, _⟩ := hy'
  have hs : ∃ d, (k.decode x).sum (k.decode y) = some d := by rw [ex, ey]; exact ⟨_, rfl⟩
  obtain ⟨d, hd⟩ := hs
  refine ⟨k.encode d, ?_, write_Db k (Db.sum hx hy hd) h1⟩
  have : k.format.add x y = ((k.decode x).sum (k.decode y)).map k.format.write := rfl
  show k.format.add x y = _
  rw [this, hd]; rfl

theorem Fb.sub {k : FloatKind} {c d : Option Nat} {T : Int} (hc : Fb k c T) (hd : Fb k d T) (h1 : InR k (T + 1)) : Fb k (cop .sub k c d) (T + 1) := by
  obtain ⟨x, rfl, hx⟩ := hc
  obtain ⟨y, rfl, hy⟩ := hd
  have hx' := hx; have hy' := hy
  obtain ⟨s, m, i, ex, _⟩ := hx'
  obtain ⟨t, n, j, ey, _⟩ := hy'
  have hs : ∃ d, (k.decode x).sum (k.decode y).opposite = some d := by rw [ex, ey]; exact ⟨_, rfl⟩
  obtain ⟨d, hd⟩ := hs
  refine ⟨k.encode d, ?_, write_Db k (Db.sum hx hy.opposite hd) h1⟩
  have : k.format.sub x y = ((k.decode x).sum (k.decode y).opposite).map k.format.write := rfl
  show k.format.sub x y = _
  rw [this, hd]; rfl

theorem Fb.mul {k : FloatKind} {c d : Option Nat} {T U : Int} (hc : Fb k c T) (hd : Fb k d U) (h1 : InR k (T + U)) : Fb k (cop .mul k c d) (T + U) := by
  obtain ⟨x, rfl, hx⟩ := hc
  obtain ⟨y, rfl, hy⟩ := hd
  have hx' := hx; have hy' := hy
  obtain ⟨s, m, i, ex, _⟩ := hx'
  obtain ⟨t, n, j, ey, _⟩ := hy'
  have hs : ∃ d, (k.decode x).product (k.decode y) = some d := by rw [ex, ey]; exact ⟨_, rfl⟩
  obtain ⟨d, hd⟩ := hs
  refine ⟨k.encode d, ?_, write_Db k (Db.product hx hy hd) h1⟩
  have : k.format.mul x y = ((k.decode x).product (k.decode y)).map k.format.write := rfl
  show k.format.mul x y = _
  rw [this, hd]; rfl

/-- some finite number of magnitude at least 2^L -/
def Fl (k : FloatKind) (c : Option Nat) (L : Int) : Prop := ∃ x, c = some x ∧ Al (k.decode x) L
theorem Fb.quo {k : FloatKind} {c d : Option Nat} {T L : Int} (hc : Fb k c T) (hd : Fl k d L) (h1 : InR k (T - L)) : Fb k (cop .quo k c d) (T - L) := by
  obtain ⟨x, rfl, hx⟩ := hc
  obtain ⟨y, rfl, hy⟩ := hd
  have hx' := hx; have hy' := hy
  obtain ⟨s, m, i, ex, _⟩ := hx'
  obtain ⟨t, n, j, ey, hn, _⟩ := hy'
  have hs : ∃ d, (k.decode x).quotient (k.format.fractionBits + 2) (k.decode y) = some d := by
    rw [ex, ey]
    simp only [Ieee.Datum.quotient, if_neg hn]
    exact ⟨_, rfl⟩
  obtain ⟨d, hd⟩ := hs
  refine ⟨k.encode d, ?_, write_Db k (Db.quotient hx hy (by cases k <;> decide) hd) h1⟩
  have : k.format.div x y = ((k.decode x).quotient (k.format.fractionBits + 2) (k.decode y)).map k.format.write := rfl
  show k.format.div x y = _
  rw [this, hd]; rfl
theorem Fl.of {k : FloatKind} {c : Option Nat} {L T : Int} (h : Lo k c L) (hf : Fb k c T) : Fl k c L := by
  obtain ⟨x, rfl, _⟩ := hf
  exact ⟨x, rfl, h x rfl⟩

theorem polyQ_Fb {u : Option Nat} (hu : Fb .f64 u (-2)) : ∀ j : Nat, j ≤ 13 → Fb .f64 (polyQ u j) 1
  | 0, _ => Fb.of (zero_Lb (by omega) (by omega))
  | j + 1, hj => by
    have ih := polyQ_Fb hu j (by omega)
    have hk := k_low ⟨j, by omega⟩
    dsimp only at hk
    have h1 := Fb.quo (T := 0) (L := 0) (Fb.of one_Lb) ⟨_, rfl, Lo_rung (x := fi (25 - 2 * (j : Int))) (by omega) (by simpa using hk.1) hk.2 _ rfl⟩ (inR (by omega) (by omega))
    have h2 := Fb.mul hu ih (inR (by omega) (by omega))
    exact (Fb.add (h1.mono (U := 0) (by omega)) (h2.mono (U := 0) (by omega)) (inR (by omega) (by omega))).mono (by omega)

theorem logX_range (R : Nat) : 4604930618986332160 ≤ logX R ∧ logX R < 4609434218613702656 := by unfold logX logBase; omega

theorem half_bd (m : Nat) (h1 : 4503599627370496 ≤ m) (h2 : m ≤ 6755399441055744) : ((m : Int) + -(4503599627370496 : Int)).natAbs ≤ 2251799813685248 := by omega
theorem quarter_bd (m : Nat) (h1 : 6755399441055744 ≤ m) (h2 : m < 9007199254740992) : ((m : Int) + -(9007199254740992 : Int)).natAbs ≤ 2251799813685248 := by omega

open Ieee in
/-- what is left of a number from 0.75 to 1.5, less 1 -/
theorem less_one (X : Nat) (h1 : 4604930618986332160 ≤ X) (h2 : X < 4609434218613702656) : Fb .f64 (cop .sub .f64 (some X) (some 4607182418800017408)) (-1) := by
  have hx := read64 X (by omega) (by omega)
  have h1d : FloatKind.f64.decode 4607182418800017408 = .number false 4503599627370496 (-52) := by decide
  have hu : FloatKind.f64.format.sub X 4607182418800017408 = ((FloatKind.f64.decode X).sum (FloatKind.f64.decode 4607182418800017408).opposite).map FloatKind.f64.format.write := rfl
  have key : ∃ d, (FloatKind.f64.decode X).sum (FloatKind.f64.decode 4607182418800017408).opposite = some d ∧ Db d (-1) := by
    rw [hx, h1d]
    simp only [Datum.opposite, Datum.sum, Bool.not_false]
    refine ⟨_, rfl, ?_⟩
    rcases Nat.lt_or_ge X 4607182418800017408 with h | h
    · have e1 : X / 4503599627370496 = 1022 := by omega
      have e2 : X % 4503599627370496 = X - 1022 * 4503599627370496 := by omega
      rw [e1]
      have hb : min (-1074 + ((1022 - 1 : Nat) : Int)) (-52) = -53 := by omega
      rw [hb]
      have es : signed false (4503599627370496 + X % 4503599627370496) (-1074 + ((1022 - 1 : Nat) : Int) - -53).toNat + signed true 4503599627370496 (-52 - -53 : Int).toNat = (((4503599627370496 + X % 4503599627370496 : Nat) : Int) + -(9007199254740992 : Int)) := by
        rw [signed_eq, signed_eq]; simp
      rw [es]
      refine ⟨_, _, _, rfl, .inr ⟨by omega, ?_⟩⟩
      have := quarter_bd (4503599627370496 + X % 4503599627370496) (by omega) (by omega)
      refine Nat.le_trans this ?_
      decide
    · have e1 : X / 4503599627370496 = 1023 := by omega
      rw [e1]
      have hb : min (-1074 + ((1023 - 1 : Nat) : Int)) (-52) = -52 := by omega
      rw [hb]
      have es : signed false (4503599627370496 + X % 4503599627370496) (-1074 + ((1023 - 1 : Nat) : Int) - -52).toNat + signed true 4503599627370496 (-52 - -52 : Int).toNat = (((4503599627370496 + X % 4503599627370496 : Nat) : Int) + -(4503599627370496 : Int)) := by
        rw [signed_eq, signed_eq]; simp
      rw [es]
      refine ⟨_, _, _, rfl, .inr ⟨by omega, ?_⟩⟩
      have := half_bd (4503599627370496 + X % 4503599627370496) (by omega) (by omega)
      refine Nat.le_trans this ?_
      decide
  obtain ⟨d, hd, hD⟩ := key
  refine ⟨FloatKind.f64.encode d, ?_, write_Db .f64 hD (inR (by omega) (by omega))⟩
  show FloatKind.f64.format.sub X 4607182418800017408 = _
  rw [hu, hd]; rfl

theorem logC_Fb (R : Nat) (h1 : 3936146074321813504 ≤ R) (h2 : R < 5183643171103440896) : Fb .f64 (logC R) 9 := by
  obtain ⟨x1, x2⟩ := logX_range R
  have e1 : -200 ≤ logE R ∧ logE R ≤ 200 := by unfold logE logBase; omega
  unfold logC logL
  generalize logX R = X at x1 x2
  have hX : Fb .f64 (some X) 1 := Fb.of (Lb_rung (by omega) (by omega) (by omega) (by simp; omega))
  have ha := less_one X x1 x2
  have hp := Fb.add hX (Fb.mono (U := 1) (Fb.of one_Lb) (by omega)) (inR (by omega) (by omega))
  have hlo : Lo .f64 (cop .add .f64 (some X) (some 4607182418800017408)) 0 := Lo_add (by omega) (by omega) (by omega) (by omega) (by simp) (fun r hr => (hp.Lb r hr).toDl.not_inf)
  have hs := Fb.quo ha (Fl.of hlo hp) (inR (by omega) (by omega))
  have hu := Fb.mul hs hs (inR (by omega) (by omega))
  have hq := polyQ_Fb (hu.mono (U := -2) (by omega)) 13 (by omega)
  have hsq := Fb.mul hs hq (inR (by omega) (by omega))
  have h2sq := Fb.mul (Fb.of two_Lb) hsq (inR (by omega) (by omega))
  have hec := Fb.mul (Fb.of (fi_Lb (logE R) e1.1 e1.2)) (Fb.of ln2_Lb) (inR (by omega) (by omega))
  exact (Fb.add (h2sq.mono (U := 8) (by omega)) (hec.mono (U := 8) (by omega)) (inR (by omega) (by omega))).mono (by omega)
theorem logC_Lb (R : Nat) (h1 : 3936146074321813504 ≤ R) (h2 : R < 5183643171103440896) : Lb .f64 (logC R) 69 := (logC_Fb R h1 h2).Lb.mono (by omega)

/-- a 32-bit number that is finite and greater than 0, in 64 bits -/
theorem up_range {x : Nat} (h0 : 0 < x) (h1 : x < 2139095040) : ∃ X, cconv .f32 .f64 (some x) = some X ∧ 3936146074321813504 ≤ X ∧ X < 5183643171103440896 ∧ cn .f32 x = some x := by
  have c : cn .f32 x = some x := cn_of_le _ _ (by rw [f32_sign, f32_inf, Nat.mod_eq_of_lt (by omega)]; omega)
  obtain ⟨X, eX, lX, cX, sX, _, _⟩ := up_spec x (by omega) c
  have hs : X < 9223372036854775808 := by
    unfold sgn at sX
    rw [f64_sign, f32_sign, decide_eq_decide] at sX
    omega
  have a := up_mono (x := x) (y := 1) (by omega) (by omega) c (by decide) eX (show cconv .f32 .f64 (some 1) = some 3936146074321813504 by decide)
  have b := up_mono (x := 2139095039) (y := x) (by omega) (by omega) (by decide) c (show cconv .f32 .f64 (some 2139095039) = some 5183643170566569984 by decide) eX
  refine ⟨X, eX, ?_, ?_, c⟩ <;> omega
end Go.Proofs.YtkemghecglbleaaGreatDoor
