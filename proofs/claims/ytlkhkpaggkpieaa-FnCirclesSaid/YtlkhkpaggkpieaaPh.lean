/- What PhasorOf gives on both sides. -/
import Derived.Test.YtlkhkpaggkpieaaSi
import Derived.Test.YtlkhkpaggkpieaaCx
namespace Go.Proofs.Ytlkhkpaggkpieaa
set_option maxRecDepth 100000
set_option exponentiation.threshold 3000
open Go.RowKit

/-! a quarter taken away again and again -/
theorem rval_quarter : rval 4503599627370496 4598175219545276416 = tp 1072 := by
  have e1 : 4598175219545276416 % 4503599627370496 = 0 := by decide
  have e2 : 4598175219545276416 / 4503599627370496 = 1021 := by decide
  unfold rval tp
  rw [if_neg (by decide), e1, e2]
theorem rval_two : rval 4503599627370496 4611686018427387904 = 8 * tp 1072 := by
  have e1 : 4611686018427387904 % 4503599627370496 = 0 := by decide
  have e2 : 4611686018427387904 / 4503599627370496 = 1024 := by decide
  unfold rval tp
  rw [if_neg (by decide), e1, e2]

theorem natAbs_diff (A B : Nat) (h : B ≤ A) : ((A : Int) + -(B : Int)).natAbs = A - B := by omega

theorem sub_quarter (x : Nat) (h1 : 4598175219545276416 ≤ x) (h2 : x ≤ 4611686018427387904) :
    ∃ z, cop .sub .f64 (some x) (some 4598175219545276416) = some z ∧ z < 9218868437227405312 ∧ rval 4503599627370496 z + tp 1072 = rval 4503599627370496 x := by
  have hd := read64 x (by omega) (by omega)
  have hq : FloatKind.f64.decode 4598175219545276416 = .number false 4503599627370496 (-54) := by decide
  have hr := rval64 x (by omega)
  obtain ⟨m, hm⟩ : ∃ m, m = 4503599627370496 + x % 4503599627370496 := ⟨_, rfl⟩
  have m1 : 4503599627370496 ≤ m := by omega
  have m2 : m < 9007199254740992 := by omega
  rw [← hm] at hd hr
  obtain ⟨a, ha⟩ : ∃ a, x / 4503599627370496 - 1 = 1020 + a := ⟨x / 4503599627370496 - 1 - 1020, by omega⟩
  have ha3 : a ≤ 3 := by omega
  rw [ha] at hd hr
  obtain ⟨z, hz, hzv⟩ := exists_rung64 (m - 2 ^ (52 - a)) (1020 + a) (Nat.lt_of_le_of_lt (Nat.sub_le _ _) m2) (by omega)
  have hpow : 2 ^ (52 - a) ≤ 4503599627370496 := by
    have : 2 ^ (52 - a) ≤ 2 ^ 52 := Nat.pow_le_pow_right (by omega) (by omega)
    exact this
  have hsplit : 2 ^ (52 - a) * 2 ^ a = 4503599627370496 := by rw [← Nat.pow_add, show 52 - a + a = 52 by omega]
  have hM : m * 2 ^ a - 4503599627370496 = (m - 2 ^ (52 - a)) * 2 ^ a := by rw [Nat.sub_mul, hsplit]
  have hge : 4503599627370496 ≤ m * 2 ^ a := Nat.le_trans m1 (Nat.le_mul_of_pos_right _ (Nat.two_pow_pos _))
  have hpa : tp (1020 + a) = 2 ^ a * tp 1020 := by unfold tp; rw [Nat.pow_add, Nat.mul_comm]
  refine ⟨z, ?_, hz, ?_⟩
  · show ((FloatKind.f64.decode x).sum (FloatKind.f64.decode 4598175219545276416).opposite).map FloatKind.f64.format.write = _
    rw [hd, hq]
    simp only [Ieee.Datum.opposite, Ieee.Datum.sum, Option.map_some]
    have e0 : min (-1074 + ((1020 + a : Nat) : Int)) (-54) = -54 := by omega
    rw [e0]
    rw [show (-1074 + ((1020 + a : Nat) : Int) - -54).toNat = a by omega, show (-54 - -54 : Int).toNat = 0 by omega, signed_eq, signed_eq, Nat.pow_zero, Nat.mul_one]
    simp only [Bool.not_false, if_true, Bool.false_eq_true, if_false]
    rw [natAbs_diff _ _ hge, hM]
    have hs : (if ((m * 2 ^ a : Nat) : Int) + -(4503599627370496 : Nat) = 0 then (false && true) else decide (((m * 2 ^ a : Nat) : Int) + -(4503599627370496 : Nat) < 0)) = false := by
      split
      · rfl
      · simp only [decide_eq_false_iff_not]; omega
    rw [hs]
    refine congrArg some ?_
    show FloatKind.f64.format.nearest false ((m - 2 ^ (52 - a)) * 2 ^ a) (-54) = z
    rw [nearest_rung FloatKind.f64.format false _ (-54) z (by rw [f64_inf]; omega) ?_, word_false]
    rw [f64_least, f64_bin, hzv, show (-54 - min (-54 : Int) (-1074)).toNat = 1020 by omega, show (-1074 - min (-54 : Int) (-1074)).toNat = 0 by omega, Nat.pow_zero, Nat.mul_one, hpa, Nat.mul_assoc]
    rfl
  · rw [hzv, hr, hpa]
    have e1 : tp 1072 = 4503599627370496 * tp 1020 := by
      have : (4503599627370496 : Nat) = 2 ^ 52 := by decide
      rw [this]; unfold tp; rw [← Nat.pow_add]
    have e2 : m * 2 ^ (1020 + a) = m * 2 ^ a * tp 1020 := by rw [Nat.add_comm, Nat.pow_add, ← Nat.mul_assoc]; rfl
    rw [e1, e2, ← Nat.mul_assoc, ← hM, ← Nat.add_mul, Nat.sub_add_cancel hge]

/-- behind j quarters -/
def phA (f : Option Nat) : Nat → Option Nat
  | 0 => f
  | j + 1 => cop .sub .f64 (phA f j) (some 4598175219545276416)

theorem Db_word {x : Nat} {T : Int} (hx : x < 18446744073709551616) (h0 : -1022 ≤ T) (h1 : T ≤ 1022) (h : Db (FloatKind.f64.decode x) T) : x % 9223372036854775808 ≤ (T + 1023).toNat * 4503599627370496 := by
  have cx := h.cn
  obtain ⟨s, m, e, hd, hb⟩ := h
  have hinf : x % 9223372036854775808 < 9218868437227405312 := by
    have h1 := le_of_cn cx
    rw [f64_sign, f64_inf] at h1
    rcases Nat.lt_or_eq_of_le h1 with h | h
    · exact h
    · have := read_inf .f64 x (by rw [f64_sign]; omega) (by rw [f64_sign, f64_inf]; exact h)
      rw [this] at hd; cases hd
  obtain ⟨m1, e1, hd1, hl1, hv1⟩ := read_num .f64 x (by rw [f64_sign]; omega) (by rw [f64_sign, f64_inf]; exact hinf)
  rw [hd] at hd1
  simp only [Ieee.Datum.number.injEq] at hd1
  obtain ⟨_, rfl, rfl⟩ := hd1
  rw [f64_least] at hl1 hv1
  rw [f64_bin, f64_sign] at hv1
  have hT : rval 4503599627370496 ((T + 1023).toNat * 4503599627370496) = 2 ^ (T + 1074).toNat := by
    have e1 : (T + 1023).toNat * 4503599627370496 % 4503599627370496 = 0 := Nat.mul_mod_left _ _
    have e2 : (T + 1023).toNat * 4503599627370496 / 4503599627370496 = (T + 1023).toNat := Nat.mul_div_cancel _ (by omega)
    unfold rval
    rw [if_neg (by omega), e1, e2, Nat.add_zero]
    have e3 : (4503599627370496 : Nat) = 2 ^ 52 := by decide
    rw [e3, ← Nat.pow_add]
    congr 1
    omega
  have hle : rval 4503599627370496 (x % 9223372036854775808) ≤ rval 4503599627370496 ((T + 1023).toNat * 4503599627370496) := by
    rw [hT, ← hv1]
    rcases hb with hb | ⟨b1, b2⟩
    · subst hb; simp
    · refine Nat.le_trans (Nat.mul_le_mul_right _ b2) ?_
      rw [← Nat.pow_add]
      exact Nat.pow_le_pow_right (by omega) (by omega)
  rcases Nat.lt_or_ge ((T + 1023).toNat * 4503599627370496) (x % 9223372036854775808) with q | q
  · have := rval_lt 4503599627370496 (by omega) q
    omega
  · exact q

/-- how a number stands to a quarter -/
theorem geq_quarter {x : Nat} (hx : x < 18446744073709551616) (h : geqK (some x) 4598175219545276416 = true) (c : cn .f64 x = some x) : 4598175219545276416 ≤ x ∧ x < 9223372036854775808 := by
  unfold geqK at h
  have ho := order_sr .f64 x 4598175219545276416 (by rw [f64_sign]; omega) (by rw [f64_sign]; omega) c quarter_cn
  have e1 : cord .f64 (some x) (some 4598175219545276416) = FloatKind.f64.format.order x 4598175219545276416 := rfl
  rw [e1, ho] at h
  have e2 : sr .f64 4598175219545276416 = 4598175219545276416 := by decide
  have e3 : sr .f64 x = if 9223372036854775808 ≤ x then -((x % 9223372036854775808 : Nat) : Int) else ((x % 9223372036854775808 : Nat) : Int) := by unfold sr; rw [f64_sign]
  rw [e2, e3] at h
  rcases Int.lt_trichotomy (if 9223372036854775808 ≤ x then -((x % 9223372036854775808 : Nat) : Int) else ((x % 9223372036854775808 : Nat) : Int)) 4598175219545276416 with q | q | q
  · rw [Int.compare_eq_lt.2 q] at h; cases h
  · split at q <;> omega
  · split at q <;> omega

theorem phA_down (x : Nat) (hx : x < 18446744073709551616) (cx : cn .f64 x = some x) (h2 : x % 9223372036854775808 ≤ 4611686018427387904) :
    ∀ j, (∀ i, i < j → geqK (phA (some x) i) 4598175219545276416 = true) → j = 0 ∨ ∃ z, phA (some x) j = some z ∧ z < 9218868437227405312 ∧ rval 4503599627370496 z + j * tp 1072 = rval 4503599627370496 x ∧ z ≤ 4611686018427387904
  | 0, _ => .inl rfl
  | j + 1, hg => by
    right
    have g := hg j (by omega)
    rcases phA_down x hx cx h2 j (fun i hi => hg i (by omega)) with h0 | ⟨z, hz, z1, z2, z3⟩
    · subst h0
      have g0 : geqK (some x) 4598175219545276416 = true := g
      obtain ⟨q1, q2⟩ := geq_quarter hx g0 cx
      obtain ⟨z, e, l, v⟩ := sub_quarter x q1 (by omega)
      refine ⟨z, e, l, by rw [Nat.zero_add, Nat.one_mul]; exact v, ?_⟩
      rcases Nat.lt_or_ge x z with q | q
      · have := rval_lt 4503599627370496 (by omega) q; omega
      · omega
    · rw [hz] at g
      obtain ⟨q1, q2⟩ := geq_quarter (by omega) g (cn64 z1)
      obtain ⟨y, e, l, v⟩ := sub_quarter z q1 z3
      refine ⟨y, by show cop .sub .f64 (phA (some x) j) _ = _; rw [hz]; exact e, l, by rw [Nat.add_mul, Nat.one_mul]; omega, ?_⟩
      rcases Nat.lt_or_ge z y with q | q
      · have := rval_lt 4503599627370496 (by omega) q; omega
      · omega

theorem all_or (p : Nat → Bool) : ∀ n : Nat, (∀ i, i < n → p i = true) ∨ ∃ J, J < n ∧ (∀ i, i < J → p i = true) ∧ p J = false
  | 0 => .inl fun i hi => absurd hi (by omega)
  | n + 1 => by
    rcases all_or p n with h | ⟨J, h1, h2, h3⟩
    · cases hn : p n with
      | true =>
        left
        intro i hi
        rcases Nat.lt_or_eq_of_le (Nat.lt_succ_iff.1 hi) with q | q
        · exact h i q
        · rw [q]; exact hn
      | false => exact .inr ⟨n, by omega, h, hn⟩
    · exact .inr ⟨J, by omega, h2, h3⟩

/-- how many quarters there are -/
theorem quarters {F : Option Nat} (hF : Fb .f64 F 1) (hl : ∀ x, F = some x → x < 18446744073709551616) : ∃ J, J < 10 ∧ (∀ i, i < J → geqK (phA F i) 4598175219545276416 = true) ∧ geqK (phA F J) 4598175219545276416 = false := by
  obtain ⟨x, rfl, hd⟩ := hF
  have hx := hl x rfl
  have h2 : x % 9223372036854775808 ≤ 4611686018427387904 := Nat.le_trans (Db_word hx (by omega) (by omega) hd) (by decide)
  rcases all_or (fun i => geqK (phA (some x) i) 4598175219545276416) 10 with h | h
  · exfalso
    have g0 : geqK (some x) 4598175219545276416 = true := h 0 (by omega)
    obtain ⟨q1, q2⟩ := geq_quarter hx g0 hd.cn
    have hx2 : x ≤ 4611686018427387904 := by omega
    rcases phA_down x hx hd.cn h2 10 (fun i hi => h i hi) with h0 | ⟨z, _, _, v, _⟩
    · cases h0
    · have hv : rval 4503599627370496 x ≤ 8 * tp 1072 := by
        rw [← rval_two]
        rcases Nat.lt_or_eq_of_le hx2 with q | q
        · exact Nat.le_of_lt (rval_lt _ (by omega) q)
        · rw [q]; exact Nat.le_refl _
      have ht := tp_pos 1072
      generalize tp 1072 = K at ht hv v
      omega
  · exact h

theorem quarter_Lb : Lb .f64 (some 4598175219545276416) 0 := Lb_rung (by omega) (by omega) (by omega) (by decide)
theorem phA_Fb {F : Option Nat} (hF : Fb .f64 F 1) : ∀ j : Nat, j < 10 → Fb .f64 (phA F j) (1 + j)
  | 0, _ => hF
  | j + 1, h => (Fb.sub (phA_Fb hF j (by omega)) ((Fb.of quarter_Lb).mono (by omega)) (inR (by omega) (by omega))).mono (by omega)

/-! the phasor -/
def Jn (F : Option Nat) (J : Nat) : Prop := J < 10 ∧ (∀ i, i < J → geqK (phA F i) 4598175219545276416 = true) ∧ geqK (phA F J) 4598175219545276416 = false
def phS (F : Option Nat) (J : Nat) : Option Nat := sinC (ptC (phA F J))
def phC (F : Option Nat) (J : Nat) : Option Nat := sinC (ptC (cop .sub .f64 (some 4598175219545276416) (phA F J)))
def phRe (F : Option Nat) (J : Nat) : Option Nat := cconv .f64 .f32 (if J = 1 then cop .sub .f64 (some 0) (phS F J) else if J = 2 then cop .sub .f64 (some 0) (phC F J) else if J = 3 then phS F J else phC F J)
def phIm (F : Option Nat) (J : Nat) : Option Nat := cconv .f64 .f32 (if J = 1 then phC F J else if J = 2 then cop .sub .f64 (some 0) (phS F J) else if J = 3 then cop .sub .f64 (some 0) (phC F J) else phS F J)

theorem small_of_Fb {c : Option Nat} {T : Int} (h : Fb .f64 c T) (hT : T ≤ 40) {r : Nat} (hr : FE .f64 r c) : c = some r ∧ r < 18446744073709551616 ∧ r % 9223372036854775808 < 4841369599423283200 := by
  have h40 := h.mono hT
  obtain ⟨x, rfl, hd⟩ := h40
  have := cn_some hr.out
  subst this
  have hl := hr.lt
  rw [f64_sign] at hl
  refine ⟨rfl, by omega, ?_⟩
  exact Nat.lt_of_le_of_lt (Db_word (by omega) (by omega) (by omega) hd) (by decide)
theorem phS_arg {F : Option Nat} (hF : Fb .f64 F 1) {J : Nat} (hJ : J < 10) : Fb .f64 (phA F J) 12 := (phA_Fb hF J hJ).mono (by omega)
theorem phC_arg {F : Option Nat} (hF : Fb .f64 F 1) {J : Nat} (hJ : J < 10) : Fb .f64 (cop .sub .f64 (some 4598175219545276416) (phA F J)) 13 := Fb.sub ((Fb.of quarter_Lb).mono (by omega)) (phS_arg hF hJ) (inR (by omega) (by omega))
theorem sin_small {y : Nat} (hy : y < 18446744073709551616) (hs : y % 9223372036854775808 < 4841369599423283200) : Fb .f64 (sinC (ptC (some y))) 94 := sinC_Fb (ptC_Fb y hy hs)
theorem zero_sub_Fb {c : Option Nat} (h : Fb .f64 c 94) : Fb .f64 (cop .sub .f64 (some 0) c) 95 := Fb.sub (Fb.of (zero_Lb (by omega) (by omega))) h (inR (by omega) (by omega))

set_option maxHeartbeats 2000000 in
theorem spec_l01Phasor (y : Nat) (hy : y < 18446744073709551616) (hs : y % 9223372036854775808 < 4841369599423283200) (J : Nat) (hJ : Jn (ptC (some y)) J) (w : World) :
    Calls Try.prog 32 #[.float .f64 y] w (RetC .f32 (phRe (ptC (some y)) J) (phIm (ptC (some y)) J) w) := by
  have HFb := Lib.hid (ptC_Fb y hy hs)
  obtain ⟨cy, hI, cfi, t1, t2⟩ := trunc_part y hy hs
  have hself := run_sub_self y hy (by omega)
  have h00 := neq00
  obtain ⟨o1, o2⟩ := ord52 y hy (by omega)
  rw [show (decide (y < 9223372036854775808) && decide (4841369599423283200 ≤ y)) = false by rw [Bool.and_eq_false_iff]; simp only [decide_eq_false_iff_not]; omega] at o1
  rw [show decide (14064741636278059008 ≤ y) = false by simp only [decide_eq_false_iff_not]; omega] at o2
  have hci := conv_int y (tI y) hI
  have C := Lib.hid (And.intro cy cfi)
  obtain ⟨n, hn⟩ : ∃ n, n = tI y := ⟨_, rfl⟩
  rw [← hn] at hci
  have N := Lib.hid hn
  have HJ := Lib.hid hJ
  have j0 := hJ.1
  clear hn cy cfi hI hs t1 t2 hJ
  go_enter Try.func32, Try.ntmps32
  go_upto_if 26 with (((first | with_reducible refine up_add _ _ _ _ _ ?_ | with_reducible refine up_sub _ _ _ _ _ ?_ | with_reducible refine up_mul _ _ _ _ _ ?_ | with_reducible refine up_quo _ _ _ _ _ ?_)); intro r nd hr)
  go_cut [3] (fun s3 wx => ∃ f nq : Nat, s3 = .float .f64 f ∧ Hid (FE .f64 f (ptC (some y))) ∧ wx = w.drewN nq)
  case first =>
    have hE : FE .f64 r (cop .sub .f64 (some y) (some (fi (tI y)))) := by
      refine hr.cast ?_
      rw [C.out.1, fi_word, N.out, C.out.2]
    have hl := lss_is hE cn_zero64
    generalize (FloatKind.f64.format.order r 0 == some .lt) = b at hl ⊢
    have L := Lib.hid (And.intro hl hE)
    clear hl hE hr
    cases b with
    | true =>
      go_wp2_with (((first | with_reducible refine up_add _ _ _ _ _ ?_ | with_reducible refine up_sub _ _ _ _ _ ?_ | with_reducible refine up_mul _ _ _ _ _ ?_ | with_reducible refine up_quo _ _ _ _ _ ?_)); intro r nd hr)
      go_meet
      case rel =>
      refine ⟨_, _, rfl, hr.cast ?_, rfl⟩
      rw [ptC_eq, if_pos L.out.1.symm, L.out.2.out, one_cn]
    | false =>
      go_wp2_with (((first | with_reducible refine up_add _ _ _ _ _ ?_ | with_reducible refine up_sub _ _ _ _ _ ?_ | with_reducible refine up_mul _ _ _ _ _ ?_ | with_reducible refine up_quo _ _ _ _ _ ?_)); intro r nd hr)
      go_meet
      case rel =>
      refine ⟨_, _, rfl, ?_, rfl⟩
      show FE .f64 _ _
      rw [ptC_eq, if_neg (by rw [← L.out.1]; exact Bool.false_ne_true)]
      exact L.out.2
  case rest =>
    obtain ⟨f0, nq, rfl, hf0, rfl⟩ := hcut
    clear hr hself hci h00 o1 o2 C N
    obtain ⟨F, hF⟩ : ∃ F, F = ptC (some y) := ⟨_, rfl⟩
    have HF := Lib.hid hF
    clear hF
    go_wp2
    go_loopw [3, 4] (fun f q wr => ∃ (j rq nq : Nat), j ≤ J ∧ q = .int .i64 j ∧ f = .float .f64 rq ∧ Hid (FE .f64 rq (phA (ptC (some y)) j)) ∧ wr = w.drewN nq) (fun _ q _ => J - (intOf q).toNat)
    case atStart => exact ⟨0, _, _, by omega, rfl, rfl, hf0, rfl⟩
    case round =>
      obtain ⟨j, rq, nq, hj, rfl, rfl, hk, rfl⟩ := hrel
      by_cases hlt : j < J
      · have hg := geq_of hk.out quarter_cn (HJ.out.2.1 j hlt)
        go_wp2_with (((first | with_reducible refine up_add _ _ _ _ _ ?_ | with_reducible refine up_sub _ _ _ _ _ ?_ | with_reducible refine up_mul _ _ _ _ _ ?_ | with_reducible refine up_quo _ _ _ _ _ ?_)); intro r nd hr)
        go_roundw
        case rel =>
          refine ⟨j + 1, _, _, by omega, by go_num, rfl, ?_, rfl⟩
          refine hr.cast ?_
          rw [hk.out.out, quarter_cn]; rfl
        case measure => simp [intOf]; omega
      · obtain rfl : j = J := by omega
        have hg := geq_of hk.out quarter_cn HJ.out.2.2
        obtain ⟨eS, lS, sS⟩ := small_of_Fb (phS_arg HFb.out j0) (by omega) hk.out
        go_wp2
        with_reducible refine up_sub _ _ _ _ _ ?_
        intro r nd hr
        have hr2 : FE .f64 r (cop .sub .f64 (some 4598175219545276416) (phA (ptC (some y)) j)) := hr.cast (by rw [hk.out.out, quarter_cn])
        obtain ⟨eC, lC, sC⟩ := small_of_Fb (phC_arg HFb.out j0) (by omega) hr2
        have EE := Lib.hid (And.intro eS eC)
        clear hr hr2 eS eC hk
        go_upto_region 13 with (go_at_call 47; (first | with_reducible refine (spec_l01SineWide r lC sC _).mono ?_ | with_reducible refine (spec_l01SineWide rq lS sS _).mono ?_); rintro _ _ ⟨c, nc, rfl, hr, rfl⟩)
        have HC := Lib.hid (And.intro (show FE .f64 c (phC (ptC (some y)) j) from hr.cast (by unfold phC; rw [EE.out.2])) (show Fb .f64 (phC (ptC (some y)) j) 94 by unfold phC; rw [EE.out.2]; exact sin_small lC sC))
        clear hr
        go_upto_region 14 with (go_at_call 47; go_loud (refine (spec_l01SineWide rq lS sS _).mono ?_); rintro _ _ ⟨s, ns, rfl, hr, rfl⟩)
        have HS := Lib.hid (And.intro (show FE .f64 s (phS (ptC (some y)) j) from hr.cast (by unfold phS; rw [EE.out.1])) (show Fb .f64 (phS (ptC (some y)) j) 94 by unfold phS; rw [EE.out.1]; exact sin_small lS sS))
        clear hr hg EE HJ lC sC lS sS HFb hf0 HF
        rcases (show j = 1 ∨ j = 2 ∨ j = 3 ∨ (j ≠ 1 ∧ j ≠ 2 ∧ j ≠ 3) by omega) with j1 | j1 | j1 | j1
        · subst j1
          go_wp2
          with_reducible refine up_sub _ _ _ _ _ ?_
          intro r nd hr
          have hz := Lib.hid (show FE .f64 r (cop .sub .f64 (some 0) (phS (ptC (some y)) 1)) from hr.cast (by rw [cn_zero64, HS.out.1.out]))
          clear hr
          have fit := Lib.hid (show Fits .f64 .f32 (cn .f64 r) by rw [hz.out.out]; exact (zero_sub_Fb HS.out.2).Lb.fits (by omega))
          go_wp2_with (go_at_call 46; refine (spec_l01Narrow _ fit.out _).mono ?_; rintro _ _ ⟨ra, nd, rfl, hr, rfl⟩)
          have Hra := Lib.hid (show FE .f32 ra (cconv .f64 .f32 (cop .sub .f64 (some 0) (phS (ptC (some y)) 1))) from hr.cast (by rw [hz.out.out]))
          clear hr
          have fit := Lib.hid (show Fits .f64 .f32 (cn .f64 c) by rw [HC.out.1.out]; exact HC.out.2.Lb.fits (by omega))
          go_wp2_with (go_at_call 46; refine (spec_l01Narrow _ fit.out _).mono ?_; rintro _ _ ⟨rb, nd, rfl, hr, rfl⟩)
          have Hrb := Lib.hid (show FE .f32 rb (cconv .f64 .f32 (phC (ptC (some y)) 1)) from hr.cast (by rw [HC.out.1.out]))
          clear hr
          go_wp2
          go_ret
          exact RetC.mk Hra.out Hrb.out
        · subst j1
          go_wp2
          with_reducible refine up_sub _ _ _ _ _ ?_
          intro r nd hr
          have hz := Lib.hid (show FE .f64 r (cop .sub .f64 (some 0) (phC (ptC (some y)) 2)) from hr.cast (by rw [cn_zero64, HC.out.1.out]))
          clear hr
          have fit := Lib.hid (show Fits .f64 .f32 (cn .f64 r) by rw [hz.out.out]; exact (zero_sub_Fb HC.out.2).Lb.fits (by omega))
          go_wp2_with (go_at_call 46; refine (spec_l01Narrow _ fit.out _).mono ?_; rintro _ _ ⟨ra, nd, rfl, hr, rfl⟩)
          have Hra := Lib.hid (show FE .f32 ra (cconv .f64 .f32 (cop .sub .f64 (some 0) (phC (ptC (some y)) 2))) from hr.cast (by rw [hz.out.out]))
          clear hr
          go_wp2
          with_reducible refine up_sub _ _ _ _ _ ?_
          intro r nd hr
          have hz := Lib.hid (show FE .f64 r (cop .sub .f64 (some 0) (phS (ptC (some y)) 2)) from hr.cast (by rw [cn_zero64, HS.out.1.out]))
          clear hr
          have fit := Lib.hid (show Fits .f64 .f32 (cn .f64 r) by rw [hz.out.out]; exact (zero_sub_Fb HS.out.2).Lb.fits (by omega))
          go_wp2_with (go_at_call 46; refine (spec_l01Narrow _ fit.out _).mono ?_; rintro _ _ ⟨rb, nd, rfl, hr, rfl⟩)
          have Hrb := Lib.hid (show FE .f32 rb (cconv .f64 .f32 (cop .sub .f64 (some 0) (phS (ptC (some y)) 2))) from hr.cast (by rw [hz.out.out]))
          clear hr
          go_wp2
          go_ret
          exact RetC.mk Hra.out Hrb.out
        · subst j1
          have fit := Lib.hid (show Fits .f64 .f32 (cn .f64 s) by rw [HS.out.1.out]; exact HS.out.2.Lb.fits (by omega))
          go_wp2_with (go_at_call 46; refine (spec_l01Narrow _ fit.out _).mono ?_; rintro _ _ ⟨ra, nd, rfl, hr, rfl⟩)
          have Hra := Lib.hid (show FE .f32 ra (cconv .f64 .f32 (phS (ptC (some y)) 3)) from hr.cast (by rw [HS.out.1.out]))
          clear hr
          go_wp2
          with_reducible refine up_sub _ _ _ _ _ ?_
          intro r nd hr
          have hz := Lib.hid (show FE .f64 r (cop .sub .f64 (some 0) (phC (ptC (some y)) 3)) from hr.cast (by rw [cn_zero64, HC.out.1.out]))
          clear hr
          have fit := Lib.hid (show Fits .f64 .f32 (cn .f64 r) by rw [hz.out.out]; exact (zero_sub_Fb HC.out.2).Lb.fits (by omega))
          go_wp2_with (go_at_call 46; refine (spec_l01Narrow _ fit.out _).mono ?_; rintro _ _ ⟨rb, nd, rfl, hr, rfl⟩)
          have Hrb := Lib.hid (show FE .f32 rb (cconv .f64 .f32 (cop .sub .f64 (some 0) (phC (ptC (some y)) 3))) from hr.cast (by rw [hz.out.out]))
          clear hr
          go_wp2
          go_ret
          exact RetC.mk Hra.out Hrb.out
        · obtain ⟨n1, n2, n3⟩ := j1
          have m1 : ((j : Int) == 1) = false := by simp; omega
          have m2 : ((j : Int) == 2) = false := by simp; omega
          have m3 : ((j : Int) == 3) = false := by simp; omega
          have fit := Lib.hid (show Fits .f64 .f32 (cn .f64 c) by rw [HC.out.1.out]; exact HC.out.2.Lb.fits (by omega))
          go_wp2_with (go_at_call 46; refine (spec_l01Narrow _ fit.out _).mono ?_; rintro _ _ ⟨ra, nd, rfl, hr, rfl⟩)
          have Hra := Lib.hid (show FE .f32 ra (cconv .f64 .f32 (phC (ptC (some y)) j)) from hr.cast (by rw [HC.out.1.out]))
          clear hr
          have fit := Lib.hid (show Fits .f64 .f32 (cn .f64 s) by rw [HS.out.1.out]; exact HS.out.2.Lb.fits (by omega))
          go_wp2_with (go_at_call 46; refine (spec_l01Narrow _ fit.out _).mono ?_; rintro _ _ ⟨rb, nd, rfl, hr, rfl⟩)
          have Hrb := Lib.hid (show FE .f32 rb (cconv .f64 .f32 (phS (ptC (some y)) j)) from hr.cast (by rw [HS.out.1.out]))
          clear hr
          go_wp2
          go_ret
          exact RetC.mk (Hra.out.cast (by unfold phRe; rw [if_neg n1, if_neg n2, if_neg n3])) (Hrb.out.cast (by unfold phIm; rw [if_neg n1, if_neg n2, if_neg n3]))

set_option maxHeartbeats 2000000 in
theorem impl_PhasorOf (y : Nat) (hy : y < 18446744073709551616) (hs : y % 9223372036854775808 < 4841369599423283200) (J : Nat) (hJ : Jn (ptC (some y)) J) (w : World) :
    Calls Try.prog 12 #[.float .f64 y] w (RetC .f32 (phRe (ptC (some y)) J) (phIm (ptC (some y)) J) w) := by
  have HFb := Lib.hid (ptC_Fb y hy hs)
  have hself := run_sub_self y hy (by omega)
  have h00 := neq00
  have HM := Lib.hid fits_nan
  have HJ := Lib.hid hJ
  have j0 := hJ.1
  have HSm := Lib.hid (And.intro hs (show y % 9223372036854775808 < 9218868437227405312 by omega))
  have H3 := Lib.hid (show decide (4841369599423283200 ≤ y % 9223372036854775808) = false by simp only [decide_eq_false_iff_not]; omega)
  clear hs hJ
  go_enter Try.func12, Try.ntmps12
  go_wp2_with (first | (go_at_call 29; refine (math_NaN _).mono ?_; rintro _ _ ⟨nd, rfl, rfl⟩) | ((with_reducible refine up_down _ _ HM.out ?_); intro r nd hr) | (go_at_call 30; refine (impl_isHuge _ hy HSm.out.2 _).mono ?_; rw [H3.out]; rintro _ _ ⟨nd, rfl, rfl⟩) | (go_at_call 33; refine (impl_partOfTurn _ hy HSm.out.1 _).mono ?_; rintro _ _ ⟨f0, nf, rfl, hf0, rfl⟩; have HF0 := Lib.hid hf0; clear hf0))
  clear hself h00 hr
  go_loopw [4, 5] (fun f q wr => ∃ (j rq nq : Nat), j ≤ J ∧ q = .int .i64 j ∧ f = .float .f64 rq ∧ Hid (FE .f64 rq (phA (ptC (some y)) j)) ∧ wr = w.drewN nq) (fun _ q _ => J - (intOf q).toNat)
  case atStart => exact ⟨0, _, _, by omega, rfl, rfl, HF0, rfl⟩
  case round =>
    obtain ⟨j, rq, nq, hj, rfl, rfl, hk, rfl⟩ := hrel
    by_cases hlt : j < J
    · have hg := geq_of hk.out quarter_cn (HJ.out.2.1 j hlt)
      go_wp2_with (((first | with_reducible refine up_add _ _ _ _ _ ?_ | with_reducible refine up_sub _ _ _ _ _ ?_ | with_reducible refine up_mul _ _ _ _ _ ?_ | with_reducible refine up_quo _ _ _ _ _ ?_)); intro r nd hr)
      go_roundw
      case rel =>
        refine ⟨j + 1, _, _, by omega, by go_num, rfl, ?_, rfl⟩
        refine hr.cast ?_
        rw [hk.out.out, quarter_cn]; rfl
      case measure => simp [intOf]; omega
    · obtain rfl : j = J := by omega
      have hg := geq_of hk.out quarter_cn HJ.out.2.2
      clear HF0 HSm H3 HM
      obtain ⟨eS, lS, sS⟩ := small_of_Fb (phS_arg HFb.out j0) (by omega) hk.out
      go_wp2
      with_reducible refine up_sub _ _ _ _ _ ?_
      intro r nd hr
      have hr2 : FE .f64 r (cop .sub .f64 (some 4598175219545276416) (phA (ptC (some y)) j)) := hr.cast (by rw [hk.out.out, quarter_cn])
      obtain ⟨eC, lC, sC⟩ := small_of_Fb (phC_arg HFb.out j0) (by omega) hr2
      have EE := Lib.hid (And.intro eS eC)
      clear hr hr2 eS eC hk
      clear hj hlt hg HJ
      go_wp2_with fail
      refine (impl_sine r lC sC _).mono ?_
      rintro _ _ ⟨c, nc, rfl, hr, rfl⟩
      have HC := Lib.hid (And.intro (show FE .f64 c (phC (ptC (some y)) j) from hr.cast (by unfold phC; rw [EE.out.2])) (show Fb .f64 (phC (ptC (some y)) j) 94 by unfold phC; rw [EE.out.2]; exact sin_small lC sC))
      clear hr
      go_wp2_with fail
      refine (impl_sine rq lS sS _).mono ?_
      rintro _ _ ⟨s, ns, rfl, hr, rfl⟩
      have HS := Lib.hid (And.intro (show FE .f64 s (phS (ptC (some y)) j) from hr.cast (by unfold phS; rw [EE.out.1])) (show Fb .f64 (phS (ptC (some y)) j) 94 by unfold phS; rw [EE.out.1]; exact sin_small lS sS))
      clear hr EE lC sC lS sS HFb
      rcases (show j = 1 ∨ j = 2 ∨ j = 3 ∨ (j ≠ 1 ∧ j ≠ 2 ∧ j ≠ 3) by omega) with j1 | j1 | j1 | j1
      · subst j1
        go_wp2
        with_reducible refine up_sub _ _ _ _ _ ?_
        intro r nd hr
        have hzs := Lib.hid (show FE .f64 r (cop .sub .f64 (some 0) (phS (ptC (some y)) 1)) from hr.cast (by rw [cn_zero64, HS.out.1.out]))
        clear hr
        go_wp2
        with_reducible refine up_down _ _ (by rw [hzs.out.out]; exact (zero_sub_Fb HS.out.2).Lb.fits (by omega)) ?_
        intro ra nd hr
        have Hra := Lib.hid (show FE .f32 ra (cconv .f64 .f32 (cop .sub .f64 (some 0) (phS (ptC (some y)) 1))) from hr.cast (by rw [hzs.out.out]))
        clear hr
        go_wp2
        with_reducible refine up_down _ _ (by rw [HC.out.1.out]; exact HC.out.2.Lb.fits (by omega)) ?_
        intro rb nd hr
        have Hrb := Lib.hid (show FE .f32 rb (cconv .f64 .f32 (phC (ptC (some y)) 1)) from hr.cast (by rw [HC.out.1.out]))
        clear hr
        go_wp2
        go_ret
        exact RetC.mk Hra.out Hrb.out
      · subst j1
        go_wp2
        with_reducible refine up_sub _ _ _ _ _ ?_
        intro r nd hr
        have hzc := Lib.hid (show FE .f64 r (cop .sub .f64 (some 0) (phC (ptC (some y)) 2)) from hr.cast (by rw [cn_zero64, HC.out.1.out]))
        clear hr
        go_wp2
        with_reducible refine up_sub _ _ _ _ _ ?_
        intro r nd hr
        have hzs := Lib.hid (show FE .f64 r (cop .sub .f64 (some 0) (phS (ptC (some y)) 2)) from hr.cast (by rw [cn_zero64, HS.out.1.out]))
        clear hr
        go_wp2
        with_reducible refine up_down _ _ (by rw [hzc.out.out]; exact (zero_sub_Fb HC.out.2).Lb.fits (by omega)) ?_
        intro ra nd hr
        have Hra := Lib.hid (show FE .f32 ra (cconv .f64 .f32 (cop .sub .f64 (some 0) (phC (ptC (some y)) 2))) from hr.cast (by rw [hzc.out.out]))
        clear hr
        go_wp2
        with_reducible refine up_down _ _ (by rw [hzs.out.out]; exact (zero_sub_Fb HS.out.2).Lb.fits (by omega)) ?_
        intro rb nd hr
        have Hrb := Lib.hid (show FE .f32 rb (cconv .f64 .f32 (cop .sub .f64 (some 0) (phS (ptC (some y)) 2))) from hr.cast (by rw [hzs.out.out]))
        clear hr
        go_wp2
        go_ret
        exact RetC.mk Hra.out Hrb.out
      · subst j1
        go_wp2
        with_reducible refine up_sub _ _ _ _ _ ?_
        intro r nd hr
        have hzc := Lib.hid (show FE .f64 r (cop .sub .f64 (some 0) (phC (ptC (some y)) 3)) from hr.cast (by rw [cn_zero64, HC.out.1.out]))
        clear hr
        go_wp2
        with_reducible refine up_down _ _ (by rw [HS.out.1.out]; exact HS.out.2.Lb.fits (by omega)) ?_
        intro ra nd hr
        have Hra := Lib.hid (show FE .f32 ra (cconv .f64 .f32 (phS (ptC (some y)) 3)) from hr.cast (by rw [HS.out.1.out]))
        clear hr
        go_wp2
        with_reducible refine up_down _ _ (by rw [hzc.out.out]; exact (zero_sub_Fb HC.out.2).Lb.fits (by omega)) ?_
        intro rb nd hr
        have Hrb := Lib.hid (show FE .f32 rb (cconv .f64 .f32 (cop .sub .f64 (some 0) (phC (ptC (some y)) 3))) from hr.cast (by rw [hzc.out.out]))
        clear hr
        go_wp2
        go_ret
        exact RetC.mk Hra.out Hrb.out
      · obtain ⟨n1, n2, n3⟩ := j1
        have m1 : ((j : Int) == 1) = false := by simp; omega
        have m2 : ((j : Int) == 2) = false := by simp; omega
        have m3 : ((j : Int) == 3) = false := by simp; omega
        go_wp2
        with_reducible refine up_down _ _ (by rw [HC.out.1.out]; exact HC.out.2.Lb.fits (by omega)) ?_
        intro ra nd hr
        have Hra := Lib.hid (show FE .f32 ra (cconv .f64 .f32 (phC (ptC (some y)) j)) from hr.cast (by rw [HC.out.1.out]))
        clear hr
        go_wp2
        with_reducible refine up_down _ _ (by rw [HS.out.1.out]; exact HS.out.2.Lb.fits (by omega)) ?_
        intro rb nd hr
        have Hrb := Lib.hid (show FE .f32 rb (cconv .f64 .f32 (phS (ptC (some y)) j)) from hr.cast (by rw [HS.out.1.out]))
        clear hr
        go_wp2
        go_ret
        exact RetC.mk (Hra.out.cast (by unfold phRe; rw [if_neg n1, if_neg n2, if_neg n3])) (Hrb.out.cast (by unfold phIm; rw [if_neg n1, if_neg n2, if_neg n3]))

set_option maxHeartbeats 1000000 in
theorem spec_l01Phasor_huge (y : Nat) (hy : y < 18446744073709551616) (h1 : ¬ y % 9223372036854775808 < 4841369599423283200) (h2 : y % 9223372036854775808 < 9218868437227405312) (w : World) :
    Calls Try.prog 32 #[.float .f64 y] w (RetV (.complex .f32 1065353216 0) w) := by
  have hself := run_sub_self y hy h2
  have h00 := neq00
  obtain ⟨o1, o2⟩ := ord52 y hy h2
  by_cases hn : y < 9223372036854775808
  · rw [show (decide (y < 9223372036854775808) && decide (4841369599423283200 ≤ y)) = true by rw [Bool.and_eq_true]; simp only [decide_eq_true_eq]; omega] at o1
    clear o2
    go_enter Try.func32, Try.ntmps32
    go_wp2
    go_ret
    exact RetV.mk0 rfl
  · rw [show (decide (y < 9223372036854775808) && decide (4841369599423283200 ≤ y)) = false by rw [Bool.and_eq_false_iff]; simp only [decide_eq_false_iff_not]; omega] at o1
    rw [show decide (14064741636278059008 ≤ y) = true by simp only [decide_eq_true_eq]; omega] at o2
    go_enter Try.func32, Try.ntmps32
    go_wp2
    go_ret
    exact RetV.mk0 rfl

theorem nan32_cn : cn .f32 2143289344 = none := by decide
set_option maxHeartbeats 1000000 in
theorem spec_l01Phasor_bad (y : Nat) (hy : y < 18446744073709551616) (h2 : ¬ y % 9223372036854775808 < 9218868437227405312) (w : World) :
    Calls Try.prog 32 #[.float .f64 y] w (RetV (.complex .f32 2143289344 2143289344) w) := by
  have H := Lib.hid (sub_self_none hy h2)
  clear h2
  go_enter Try.func32, Try.ntmps32
  go_wp2
  with_reducible refine up_sub _ _ _ _ _ ?_
  intro r nd hr
  have hb := order_neq_none (k := 0) (hr.out.trans H.out)
  clear hr
  go_wp2_with (go_at_call 49; refine (spec_l01From 2143289344 (by omega) (by omega) _).mono ?_; rintro _ _ ⟨nd, rfl, rfl⟩)
  go_ret
  exact RetV.mk rfl

set_option maxHeartbeats 1000000 in
theorem impl_PhasorOf_huge (y : Nat) (hy : y < 18446744073709551616) (h1 : ¬ y % 9223372036854775808 < 4841369599423283200) (h2 : y % 9223372036854775808 < 9218868437227405312) (w : World) :
    Calls Try.prog 12 #[.float .f64 y] w (RetV (.complex .f32 1065353216 0) w) := by
  have hself := run_sub_self y hy h2
  have h00 := neq00
  have HM := Lib.hid fits_nan
  have H2 := Lib.hid h2
  have H3 := Lib.hid (show decide (4841369599423283200 ≤ y % 9223372036854775808) = true by simp only [decide_eq_true_eq]; omega)
  clear h1 h2
  go_enter Try.func12, Try.ntmps12
  go_wp2_with (first | (go_at_call 29; refine (math_NaN _).mono ?_; rintro _ _ ⟨nd, rfl, rfl⟩) | ((with_reducible refine up_down _ _ HM.out ?_); intro r nd hr) | (go_at_call 30; refine (impl_isHuge _ hy H2.out _).mono ?_; rw [H3.out]; rintro _ _ ⟨nd, rfl, rfl⟩))
  go_ret
  exact RetV.mk rfl

set_option maxHeartbeats 1000000 in
theorem impl_PhasorOf_bad (y : Nat) (hy : y < 18446744073709551616) (h2 : ¬ y % 9223372036854775808 < 9218868437227405312) (w : World) :
    Calls Try.prog 12 #[.float .f64 y] w (RetC .f32 none none w) := by
  have H := Lib.hid (sub_self_none hy h2)
  have HM := Lib.hid fits_nan
  clear h2
  go_enter Try.func12, Try.ntmps12
  go_wp2_with (first | (go_at_call 29; refine (math_NaN _).mono ?_; rintro _ _ ⟨nd, rfl, rfl⟩) | ((with_reducible refine up_down _ _ HM.out ?_); intro r nd hr))
  have HR := Lib.hid (show FE .f32 r none from hr.cast (by rw [nan_cn]; rfl))
  clear hr
  with_reducible refine up_sub _ _ _ _ _ ?_
  intro r2 nd hr
  have hb := order_neq_none (k := 0) (hr.out.trans H.out)
  clear hr
  go_wp2
  go_ret
  exact RetC.mk HR.out HR.out

theorem retV_C {k : FloatKind} {a b : Nat} {c d : Option Nat} {w : World} (h : FE k a c) (h2 : FE k b d) (e : Ending) (w' : World) (hr : RetV (.complex k a b) w e w') : RetC k c d w e w' := by
  obtain ⟨n, rfl, rfl⟩ := hr
  exact ⟨a, b, n, rfl, h, h2, rfl⟩

/-- for every number of turns both sides give the same point -/
theorem phasors (y : Nat) (hy : y < 18446744073709551616) : ∃ c d, (∀ w, Calls Try.prog 32 #[.float .f64 y] w (RetC .f32 c d w)) ∧ (∀ w, Calls Try.prog 12 #[.float .f64 y] w (RetC .f32 c d w)) := by
  by_cases h2 : y % 9223372036854775808 < 9218868437227405312
  · by_cases h1 : y % 9223372036854775808 < 4841369599423283200
    · have hF := ptC_Fb y hy h1
      obtain ⟨x, hx, hd⟩ := hF
      have hl : ∀ x, ptC (some y) = some x → x < 18446744073709551616 := by
        intro x' hx'
        rw [hx] at hx'; cases hx'
        rw [ptC_eq] at hx
        split at hx
        · exact (cop_word hx hd.cn).1
        · exact (cop_word hx hd.cn).1
      obtain ⟨J, hJ⟩ := quarters ⟨x, hx, hd⟩ hl
      exact ⟨_, _, fun w => spec_l01Phasor y hy h1 J hJ w, fun w => impl_PhasorOf y hy h1 J hJ w⟩
    · have e1 : FE .f32 1065353216 (some 1065353216) := ⟨by decide, by rw [f32_sign]; omega⟩
      have e2 : FE .f32 0 (some 0) := ⟨by decide, by rw [f32_sign]; omega⟩
      exact ⟨_, _, fun w => (spec_l01Phasor_huge y hy h1 h2 w).mono (retV_C e1 e2), fun w => (impl_PhasorOf_huge y hy h1 h2 w).mono (retV_C e1 e2)⟩
  · have e1 : FE .f32 2143289344 none := ⟨nan32_cn, by rw [f32_sign]; omega⟩
    exact ⟨_, _, fun w => (spec_l01Phasor_bad y hy h2 w).mono (retV_C e1 e1), fun w => impl_PhasorOf_bad y hy h2 w⟩

set_option maxHeartbeats 1000000 in
theorem law_PhasorOf (y : Nat) (hy : y < 18446744073709551616) (w : World) :
    Calls Try.prog 4 #[.float .f64 y] w (RetV (.bool true) w) := by
  obtain ⟨c, d, hS, hI⟩ := phasors y hy
  have HS := Lib.hid hS
  have HI := Lib.hid hI
  clear hS hI
  have hP : ∀ w, Calls Try.prog 11 #[.float .f64 y] w (RetC .f32 c d w) := by
    intro w
    go_enter Try.func11, Try.ntmps11
    go_wp2_with (go_at_call 32; refine (HS.out _).mono ?_; rintro _ _ ⟨r1, q1, n1, rfl, hr1, hq1, rfl⟩)
    go_ret
    exact RetC.mk hr1 hq1
  have HP := Lib.hid hP
  clear hP
  go_enter Try.func4, Try.ntmps4
  go_wp2_with (first | (go_at_call 11; refine (HP.out _).mono ?_; rintro _ _ ⟨r1, q1, n1, rfl, hr1, hq1, rfl⟩) | (go_at_call 12; refine (HI.out _).mono ?_; rintro _ _ ⟨r1, q1, n1, rfl, hr1, hq1, rfl⟩) | ((with_reducible refine up_upC _ _ _ ?_); intro r q nd hr hq) | (go_at_call 13; refine (laws_sameComplex _ _ _ _ ?h1 ?h2 _).mono ?_; rotate_left 2; rintro _ _ ⟨nd, rfl, rfl⟩))
  case h1 => go_tidy; simp_all [FE]
  case h2 => go_tidy; simp_all [FE]
  go_ret
  exact RetV.mk rfl
end Go.Proofs.Ytlkhkpaggkpieaa
