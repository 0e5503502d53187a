/- Tenths of decibels by the quick operations. -/
import Derived.Test.YtlkhkpaggkpieaaXf
import Derived.Test.YtlkhkpaggkpieaaTn
namespace Go.Proofs.Ytlkhkpaggkpieaa
set_option maxRecDepth 100000
set_option linter.unusedVariables false
/-- 1/k for k = 25, 23, .. -/
def invK (j : Nat) : Nat := [4585925428558828667, 4586426698778222948, 4587023449039406616, 4587745830934523688, 4588638185040256542, 4589468260265693457, 4590207312512236308, 4591215111030249286, 4592670820000712476, 4594314991293244562, 4596373779694328218, 4599676419421066581, 4607182418800017408].getD j 0
theorem invK_is : ∀ j : Fin 13, cop .quo .f64 (some 4607182418800017408) (some (fi (25 - 2 * (j.val : Int)))) = some (invK j.val) := by decide +kernel
def pK (u : Nat) (f : Nat → Bool) : List Nat → Nat → Bool
  | [], q => f q
  | c :: cs, q => fmulK u q fun z => faddK c z fun y => pK u f cs y
theorem pK_is (u : Nat) (f : Nat → Bool) : ∀ (cs : List Nat) (j q : Nat), cs.length + j = 13 → (∀ i, i < cs.length → cs.getD i 0 = invK (j + i)) → polyQ (some u) j = some q → pK u f cs q = true → ∃ r, polyQ (some u) 13 = some r ∧ f r = true
  | [], j, q, hn, _, hq, h => by
    obtain rfl : j = 13 := by simpa using hn
    exact ⟨q, hq, h⟩
  | c :: cs, j, q, hn, hc, hq, h => by
    have h : (fmulK u q fun z => faddK c z fun y => pK u f cs y) = true := h
    obtain ⟨z, hz, h⟩ := fmulK_is h
    obtain ⟨y, hy, h⟩ := faddK_is h
    have hn' : cs.length + 1 + j = 13 := by simpa using hn
    have hc0 := hc 0 (by simp)
    refine pK_is u f cs (j + 1) y (by omega) (fun i hi => ?_) ?_ h
    · have := hc (i + 1) (by simpa using hi)
      rw [show j + 1 + i = j + (i + 1) by omega]
      simpa using this
    · have hi := invK_is ⟨j, by omega⟩
      dsimp only at hi
      have hcj : c = invK j := by simpa using hc0
      rw [polyQ, hi, hq, hz, ← hcj, hy]
/-- twice s times the sum, for an X: the logarithm but for its multiple of the logarithm of 2 -/
def lpK (X : Nat) (f : Nat → Bool) : Bool :=
  fsubK X 4607182418800017408 fun a => faddK X 4607182418800017408 fun b => fdivK a b fun s => fmulK s s fun u =>
    pK u (fun q => fmulK s q fun z => fmulK 4611686018427387904 z f) [4585925428558828667, 4586426698778222948, 4587023449039406616, 4587745830934523688, 4588638185040256542, 4589468260265693457, 4590207312512236308, 4591215111030249286, 4592670820000712476, 4594314991293244562, 4596373779694328218, 4599676419421066581, 4607182418800017408] 0
theorem lpK_is {X : Nat} {f : Nat → Bool} (h : lpK X f = true) : ∃ z, (∀ e, logL (some X) e = cop .add .f64 (some z) (cop .mul .f64 e (some 4604418534313441775))) ∧ f z = true := by
  unfold lpK at h
  obtain ⟨a, ha, h⟩ := fsubK_is h
  obtain ⟨b, hb, h⟩ := faddK_is h
  obtain ⟨s, hs, h⟩ := fdivK_is h
  obtain ⟨u, hu, h⟩ := fmulK_is h
  obtain ⟨q, hq, h⟩ := pK_is u _ _ 0 0 rfl (fun i hi => by rw [Nat.zero_add]; rfl) rfl h
  obtain ⟨z, hz, h⟩ := fmulK_is h
  obtain ⟨l, hl, h⟩ := fmulK_is h
  refine ⟨l, fun e => ?_, h⟩
  unfold logL
  rw [ha, hb, hs, hu, hq, hz, hl]
/-- multiples of the logarithm of 2, from -8 times on -/
def lnT (t : Nat) : Nat := [13841301370050329071, 13840520955704308401, 13839740541358287731, 13838358599114999915, 13836797770422958575, 13835236941730917235, 13832294170795588079, 13827790571168217583, 0, 4604418534313441775, 4608922133940812271, 4611864904876141427, 4613425733568182767, 4614986562260224107, 4616368504503511923, 4617148918849532593, 4617929333195553263, 4618709747541573933, 4619490161887594603, 4620270576233615273].getD t 0
theorem lnT_is : ∀ t : Fin 20, cop .mul .f64 (some (fi ((t.val : Int) - 8))) (some 4604418534313441775) = some (lnT t.val) := by decide +kernel

/-! floors -/
theorem okw_of {x : Nat} (h1 : x < 18446744073709551616) (h2 : 1 ≤ x / 4503599627370496 % 2048) (h3 : x / 4503599627370496 % 2048 ≤ 2046) : okw x = true := by
  unfold okw
  rw [fE_eq, Nat.ble_eq_true_of_le h2, Nat.ble_eq_true_of_le h3, show Nat.blt x 18446744073709551616 = true from Nat.ble_eq_true_of_le h1]
  rfl
theorem fsg_word (s : Bool) {r : Nat} (h : r < 9223372036854775808) : fsg (Ieee.double.word s r) = s := by
  unfold Ieee.Format.word
  rw [fsg_eq, d_sign]
  cases s
  · exact decide_eq_false (by simp; omega)
  · exact decide_eq_true (by simp)
theorem int_back (s : Bool) (n : Nat) (h : n < 9007199254740992) : (FloatKind.f64.decode (FloatKind.f64.encode (.number s n 0))).toInt .zero = some (if s then -(n : Int) else (n : Int)) := by
  by_cases h0 : n = 0
  · subst h0
    cases s <;> decide
  · obtain ⟨L, hL⟩ : ∃ L, L = n.log2 := ⟨_, rfl⟩
    have h1 : 2 ^ L ≤ n := by rw [hL]; exact (Nat.le_log2 h0).1 (Nat.le_refl _)
    have h2 : n < 2 ^ (L + 1) := by rw [hL]; exact (Nat.log2_lt h0).1 (Nat.lt_succ_self _)
    have hL2 : L ≤ 52 := by
      have e : (2 : Nat) ^ 53 = 9007199254740992 := by decide
      have := (Nat.log2_lt h0).2 (show n < 2 ^ 53 by omega)
      omega
    have hk : (bif Nat.ble 52 L then fcut n (L - 52) else n <<< (52 - L)) = n * 2 ^ (52 - L) := by
      by_cases c : 52 ≤ L
      · rw [Nat.ble_eq_true_of_le c, cond_true, show L - 52 = 0 by omega, show 52 - L = 0 by omega, fcut_eq]
        simp [Nat.mod_one]
      · cases hb : Nat.ble 52 L with
        | false => rw [cond_false]; exact Nat.shiftLeft_eq _ _
        | true => exact absurd (Nat.le_of_ble_eq_true hb) c
    have hr : fnear n 1075 L = (1022 + L) * 4503599627370496 + n * 2 ^ (52 - L) := by
      unfold fnear
      simp only [nadd, nmul, nsub, nshl]
      rw [hk, show 1075 + L - 53 = 1022 + L by omega]
    have m1 : 4503599627370496 ≤ n * 2 ^ (52 - L) := by
      have : 2 ^ L * 2 ^ (52 - L) = 2 ^ 52 := by rw [← Nat.pow_add, show L + (52 - L) = 52 by omega]
      have := Nat.mul_le_mul_right (2 ^ (52 - L)) h1
      have e := pow52
      omega
    have m2 : n * 2 ^ (52 - L) < 9007199254740992 := by
      have : 2 ^ (L + 1) * 2 ^ (52 - L) = 2 ^ 53 := by rw [← Nat.pow_add, show L + 1 + (52 - L) = 53 by omega]
      have := Nat.mul_lt_mul_of_pos_right h2 (Nat.two_pow_pos (52 - L))
      have e : (2 : Nat) ^ 53 = 9007199254740992 := by decide
      omega
    have hn := near_is s n 1075 L h1 h2 (by omega) (by rw [hr]; omega)
    rw [show (((1075 : Nat) : Int) - 1075) = 0 by omega, hr] at hn
    have he : FloatKind.f64.encode (.number s n 0) = Ieee.double.word s ((1022 + L) * 4503599627370496 + n * 2 ^ (52 - L)) := hn
    rw [he]
    generalize hm : n * 2 ^ (52 - L) = m at *
    have hw : Ieee.double.word s ((1022 + L) * 4503599627370496 + m) < 18446744073709551616 ∧ Ieee.double.word s ((1022 + L) * 4503599627370496 + m) / 4503599627370496 % 2048 = 1023 + L ∧ Ieee.double.word s ((1022 + L) * 4503599627370496 + m) % 4503599627370496 = m - 4503599627370496 := by
      unfold Ieee.Format.word
      rw [d_sign]
      cases s
      · rw [if_neg Bool.false_ne_true]; omega
      · rw [if_pos rfl]; omega
    have hok := okw_of hw.1 (by omega) (by omega)
    have hd := read_okw hok
    have hfs := fsg_word s (r := (1022 + L) * 4503599627370496 + m) (by omega)
    rw [hfs, fM_eq, fE_eq, hw.2.1, hw.2.2, show 4503599627370496 + (m - 4503599627370496) = m by omega] at hd
    show (Ieee.double.read _).toInt .zero = _
    rw [hd]
    unfold Ieee.Datum.toInt Ieee.Datum.integral
    dsimp only
    rw [show (((1023 + L : Nat) : Int) - 1075).toNat = 0 by omega, show (-(((1023 + L : Nat) : Int) - 1075)).toNat = 52 - L by omega, Nat.shiftLeft_zero, cut_zero,
      log2_of (L := 52) (by rw [pow52]; exact m1) (by rw [show (2 : Nat) ^ (52 + 1) = 9007199254740992 by decide]; exact m2), Nat.min_eq_left (by omega), ← hm, Nat.mul_div_cancel _ (Nat.two_pow_pos _)]
    unfold Ieee.signed
    rw [Nat.shiftLeft_zero]
def floorK (v : Nat) (f : Bool → Nat → Bool) : Bool :=
  bif okw v && Nat.ble (fE v) 1074 then
    force (Nat.sub 1075 (fE v)) fun d => force (fM v) fun m => force (Nat.shiftRight m d) fun low =>
      bif fsg v then (bif Nat.beq (Nat.shiftLeft low d) m then f true low else force (Nat.add low 1) fun n => f true n) else f false low
  else false
theorem floorK_is {v : Nat} {f : Bool → Nat → Bool} (h : floorK v f = true) : ∃ (s : Bool) (n : Nat), n < 9007199254740992 ∧ (FloatKind.f64.decode v).integral .down = .number s n 0 ∧ f s n = true := by
  unfold floorK at h
  obtain ⟨hb, h⟩ := bif_true h
  simp only [Bool.and_eq_true] at hb
  obtain ⟨hv, he⟩ := hb
  have he : fE v ≤ 1074 := Nat.le_of_ble_eq_true he
  simp only [force_is] at h
  have hd : FloatKind.f64.decode v = _ := read_okw hv
  obtain ⟨m1, m2⟩ := fM_range v
  have lg := log2_of m1 m2
  generalize fM v = m at *
  simp only [nshr, nshl, nsub, nadd] at h
  rw [Nat.shiftRight_eq_div_pow, Nat.shiftLeft_eq] at h
  obtain ⟨d, hdd⟩ : ∃ d, d = 1075 - fE v := ⟨_, rfl⟩
  rw [← hdd] at h
  have hd1 : 1 ≤ d := by omega
  -- what the model's cut gives
  have hq : m / 2 ^ min d 54 = m / 2 ^ d ∧ (m % 2 ^ min d 54 = 0 ↔ m / 2 ^ d * 2 ^ d = m) := by
    by_cases c : d ≤ 54
    · rw [Nat.min_eq_left c]
      refine ⟨rfl, ?_⟩
      have := Nat.div_add_mod m (2 ^ d)
      rw [Nat.mul_comm] at this
      omega
    · rw [Nat.min_eq_right (by omega)]
      have l1 : m < 2 ^ 54 := Nat.lt_of_lt_of_le m2 (by decide)
      have l2 : m < 2 ^ d := Nat.lt_of_lt_of_le l1 (Nat.pow_le_pow_right (by omega) (by omega))
      have m0 : 0 < m := Nat.lt_of_lt_of_le (by decide) m1
      rw [Nat.div_eq_of_lt l1, Nat.div_eq_of_lt l2, Nat.mod_eq_of_lt l1]
      refine ⟨rfl, ?_⟩
      omega
  have hlow : m / 2 ^ d < 9007199254740991 := by
    have : m / 2 ^ d ≤ m / 2 := Nat.div_le_div_left (by
      have := Nat.pow_le_pow_right (n := 2) (by omega) hd1
      simpa using this) (by omega)
    have e : (2 : Nat) ^ 53 = 9007199254740992 := by decide
    omega
  have hint : (FloatKind.f64.decode v).integral .down = .number (fsg v) (m / 2 ^ d + (fsg v && m % 2 ^ min d 54 != 0).toNat) 0 := by
    rw [hd]
    unfold Ieee.Datum.integral
    dsimp only
    rw [show ((fE v : Int) - 1075).toNat = 0 by omega, show (-((fE v : Int) - 1075)).toNat = d by omega, Nat.shiftLeft_zero]
    unfold Ieee.Toward.cut
    simp only [Nat.one_shiftLeft, lg]
    rw [hq.1]
  rw [hint]
  cases hs : fsg v with
  | false =>
    rw [hs, cond_false] at h
    exact ⟨false, m / 2 ^ d, by omega, by simp, h⟩
  | true =>
    rw [hs, cond_true] at h
    by_cases e : m / 2 ^ d * 2 ^ d = m
    · rw [show Nat.beq (m / 2 ^ d * 2 ^ d) m = true from by rw [e]; exact Nat.beq_refl m, cond_true] at h
      refine ⟨true, m / 2 ^ d, by omega, ?_, h⟩
      rw [hq.2.2 e]; simp
    · rw [show Nat.beq (m / 2 ^ d * 2 ^ d) m = false from by
        cases hb : Nat.beq (m / 2 ^ d * 2 ^ d) m with
        | false => rfl
        | true => exact absurd (Nat.eq_of_beq_eq_true hb) e, cond_false] at h
      refine ⟨true, m / 2 ^ d + 1, by omega, ?_, h⟩
      have : m % 2 ^ min d 54 ≠ 0 := fun q => e (hq.2.1 q)
      simp [this]

/-! tenths -/
def tenK (R : Nat) (f : Bool → Nat → Bool) : Bool :=
  force (Nat.shiftRight R 52) fun e => force (Nat.mod R 4503599627370496) fun r =>
    bif Nat.ble 2251799813685248 r then
      force (Nat.add 4602678819172646912 r) fun X => force (Nat.sub e 1014) fun t => bif Nat.ble 1014 e && Nat.ble t 19 then tenQ X t f else false
    else force (Nat.add 4607182418800017408 r) fun X => force (Nat.sub e 1015) fun t => bif Nat.ble 1015 e && Nat.ble t 19 then tenQ X t f else false
where tenQ (X t : Nat) (f : Bool → Nat → Bool) : Bool := lpK X fun l => force (lnT t) fun c => faddK l c fun v => fmulK v 4631308968768463603 fun y => faddK y 4602678819172646912 fun z => floorK z f
theorem tenQ_is {R t : Nat} {f : Bool → Nat → Bool} (ht : t < 20) (hE : logE R = (t : Int) - 8) (h : tenK.tenQ (logX R) t f = true) : ∃ (s : Bool) (n : Nat), tenI R = (if s then -(n : Int) else (n : Int)) ∧ f s n = true := by
  unfold tenK.tenQ at h
  obtain ⟨l, hl, h⟩ := lpK_is h
  rw [force_is] at h
  obtain ⟨v, hv, h⟩ := faddK_is h
  obtain ⟨y, hy, h⟩ := fmulK_is h
  obtain ⟨z, hz, h⟩ := faddK_is h
  obtain ⟨s, n, hn, hi, h⟩ := floorK_is h
  refine ⟨s, n, ?_, h⟩
  have hlc : logC R = some v := by
    unfold logC
    rw [hE, hl, lnT_is ⟨t, ht⟩, hv]
  have htv : tenV R = some z := by
    unfold tenV
    rw [hlc, hy, hz]
  have htf : tenF R = FloatKind.f64.encode (.number s n 0) := by
    unfold tenF
    rw [htv]
    show FloatKind.f64.encode ((FloatKind.f64.decode z).integral .down) = _
    rw [hi]
  unfold tenI
  rw [htf]
  unfold floatToIntVal
  rw [int_back s n hn]
  have hr : IntKind.i64.min ≤ (if s then -(n : Int) else (n : Int)) ∧ (if s then -(n : Int) else (n : Int)) ≤ IntKind.i64.max := by
    have e1 : IntKind.i64.min = -9223372036854775808 := by decide
    have e2 : IntKind.i64.max = 9223372036854775807 := by decide
    rw [e1, e2]
    split <;> omega
  simp only [hr, and_self, if_true]
  rfl
theorem tenK_is {R : Nat} {f : Bool → Nat → Bool} (hR : R < 9223372036854775808) (h : tenK R f = true) : ∃ (s : Bool) (n : Nat), tenI R = (if s then -(n : Int) else (n : Int)) ∧ f s n = true := by
  unfold tenK at h
  simp only [force_is] at h
  simp only [nshr, nmod, nadd, nsub] at h
  rw [Nat.shiftRight_eq_div_pow, pow52] at h
  cases hb : Nat.ble 2251799813685248 (R % 4503599627370496) with
  | true =>
    rw [hb, cond_true] at h
    have hb := Nat.le_of_ble_eq_true hb
    obtain ⟨hc, h⟩ := bif_true h
    simp only [Bool.and_eq_true] at hc
    have h1 := Nat.le_of_ble_eq_true hc.1
    have h2 : R / 4503599627370496 - 1014 ≤ 19 := Nat.le_of_ble_eq_true hc.2
    have hX : logX R = 4602678819172646912 + R % 4503599627370496 := by
      unfold logX logBase; omega
    rw [← hX] at h
    exact tenQ_is (t := R / 4503599627370496 - 1014) (by omega) (by unfold logE logBase; omega) h
  | false =>
    rw [hb, cond_false] at h
    have hb := ble_false hb
    obtain ⟨hc, h⟩ := bif_true h
    simp only [Bool.and_eq_true] at hc
    have h1 := Nat.le_of_ble_eq_true hc.1
    have h2 : R / 4503599627370496 - 1015 ≤ 19 := Nat.le_of_ble_eq_true hc.2
    have hX : logX R = 4607182418800017408 + R % 4503599627370496 := by
      unfold logX logBase; omega
    rw [← hX] at h
    exact tenQ_is (t := R / 4503599627370496 - 1015) (by omega) (by unfold logE logBase; omega) h
end Go.Proofs.Ytlkhkpaggkpieaa
