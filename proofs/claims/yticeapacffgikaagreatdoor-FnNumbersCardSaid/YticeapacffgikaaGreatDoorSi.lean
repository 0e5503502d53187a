/- What SineTurns gives on both sides: the sine of a part of a turn. -/
import Derived.Test.YticeapacffgikaaGreatDoorPt
import Derived.Deep.DeepCutAuto
import Derived.Lib.Hide
namespace Go.Proofs.YticeapacffgikaaGreatDoor
set_option maxRecDepth 100000
set_option exponentiation.threshold 3000
open Go.RowKit

/-! the other sign -/
theorem negFloat_eq (x : Nat) (hx : x < 18446744073709551616) : Op.negFloat .f64 x = if 9223372036854775808 ≤ x then x - 9223372036854775808 else x + 9223372036854775808 := by
  have e : Op.negFloat .f64 x = x ^^^ 2 ^ 63 := rfl
  rw [e]
  have h1 : (x ^^^ 2 ^ 63) % 2 ^ 63 = x % 2 ^ 63 := by rw [Nat.xor_mod_two_pow, Nat.mod_self, Nat.xor_zero]
  have h2 : (x ^^^ 2 ^ 63) / 2 ^ 63 = x / 2 ^ 63 ^^^ 1 := by rw [Nat.xor_div_two_pow, Nat.div_self (Nat.two_pow_pos _)]
  have h3 := Nat.div_add_mod (x ^^^ 2 ^ 63) (2 ^ 63)
  rw [h1, h2] at h3
  rw [← h3]
  have e63 : (2 : Nat) ^ 63 = 9223372036854775808 := by decide
  rw [e63]
  by_cases h : 9223372036854775808 ≤ x
  · rw [if_pos h, show x / 9223372036854775808 = 1 by omega]
    show 9223372036854775808 * 0 + _ = _
    omega
  · rw [if_neg h, show x / 9223372036854775808 = 0 by omega]
    show 9223372036854775808 * 1 + _ = _
    omega
def cneg : Option Nat → Option Nat
  | some x => some (Op.negFloat .f64 x)
  | none => none
theorem FE_neg {r : Nat} {c : Option Nat} (h : FE .f64 r c) : FE .f64 (Op.negFloat .f64 r) (cneg c) := by
  obtain ⟨h1, h2⟩ := h
  rw [f64_sign] at h2
  have e := negFloat_eq r h2
  have hm : Op.negFloat .f64 r % 9223372036854775808 = r % 9223372036854775808 := by rw [e]; split <;> omega
  refine ⟨?_, by rw [f64_sign, e]; split <;> omega⟩
  rcases cn_cases .f64 r with c1 | c1
  · rw [← h1, c1]
    rcases cn_cases .f64 (Op.negFloat .f64 r) with c2 | c2
    · rw [c2]; rfl
    · have := le_of_cn c2
      rw [f64_sign, hm] at this
      rw [cn_of_le .f64 r (by rw [f64_sign]; exact this)] at c1
      cases c1
  · rw [← h1, c1]
    have := le_of_cn c1
    rw [f64_sign] at this
    exact cn_of_le _ _ (by rw [f64_sign, hm]; exact this)

/-! the sine -/
def geqK (c : Option Nat) (k : Nat) : Bool := cord .f64 c (some k) == some .gt || cord .f64 c (some k) == some .eq
def gtrK (c : Option Nat) (k : Nat) : Bool := cord .f64 c (some k) == some .gt
def lssK (c : Option Nat) (k : Nat) : Bool := cord .f64 c (some k) == some .lt
theorem geq_of {r : Nat} {c : Option Nat} {k : Nat} {b : Bool} (h : FE .f64 r c) (hk : cn .f64 k = some k) (hb : geqK c k = b) : (FloatKind.f64.format.order r k == some .gt || FloatKind.f64.format.order r k == some .eq) = b := by
  rw [order_cord, h.out, hk]; exact hb
theorem gtr_of {r : Nat} {c : Option Nat} {k : Nat} {b : Bool} (h : FE .f64 r c) (hk : cn .f64 k = some k) (hb : gtrK c k = b) : (FloatKind.f64.format.order r k == some .gt) = b := by
  rw [order_cord, h.out, hk]; exact hb
theorem lss_of {r : Nat} {c : Option Nat} {k : Nat} {b : Bool} (h : FE .f64 r c) (hk : cn .f64 k = some k) (hb : lssK c k = b) : (FloatKind.f64.format.order r k == some .lt) = b := by
  rw [order_cord, h.out, hk]; exact hb
theorem geq_is {r : Nat} {c : Option Nat} {k : Nat} (h : FE .f64 r c) (hk : cn .f64 k = some k) : (FloatKind.f64.format.order r k == some .gt || FloatKind.f64.format.order r k == some .eq) = geqK c k := geq_of h hk rfl
theorem gtr_is {r : Nat} {c : Option Nat} {k : Nat} (h : FE .f64 r c) (hk : cn .f64 k = some k) : (FloatKind.f64.format.order r k == some .gt) = gtrK c k := gtr_of h hk rfl
theorem lss_is {r : Nat} {c : Option Nat} {k : Nat} (h : FE .f64 r c) (hk : cn .f64 k = some k) : (FloatKind.f64.format.order r k == some .lt) = lssK c k := lss_of h hk rfl
theorem quarter_cn : cn .f64 4598175219545276416 = some 4598175219545276416 := by decide
theorem twopi_cn : cn .f64 4618760256179416344 = some 4618760256179416344 := by decide

def sinA (f : Option Nat) : Option Nat := if geqK f 4602678819172646912 then cop .sub .f64 f (some 4602678819172646912) else f
def sinB (f : Option Nat) : Option Nat := if gtrK f 4598175219545276416 then cop .sub .f64 (some 4602678819172646912) f else f
def sinK (j : Nat) : Nat := fi (2 * (8 - (j : Int)) * (2 * (8 - (j : Int)) + 1))
def sinP (u : Option Nat) : Nat → Option Nat
  | 0 => some 4607182418800017408
  | j + 1 => cop .sub .f64 (some 4607182418800017408) (cop .quo .f64 (cop .mul .f64 u (sinP u j)) (some (sinK j)))
def sinZ (f : Option Nat) : Option Nat := cop .mul .f64 (sinB (sinA f)) (some 4618760256179416344)
def sinV (f : Option Nat) : Option Nat := cop .mul .f64 (sinZ f) (sinP (cop .mul .f64 (sinZ f) (sinZ f)) 8)
def sinC (f : Option Nat) : Option Nat := if geqK f 4602678819172646912 then cneg (sinV f) else sinV f

theorem half_Lb : Lb .f64 (some 4602678819172646912) 0 := Lb_rung (by omega) (by omega) (by omega) (by decide)
theorem twopi_Lb : Lb .f64 (some 4618760256179416344) 3 := Lb_rung (by omega) (by omega) (by omega) (by decide)
theorem sinK_tab : ∀ j : Fin 8, 1025 * 4503599627370496 ≤ sinK j.val ∧ sinK j.val < 9218868437227405312 ∧ cn .f64 (sinK j.val) = some (sinK j.val) := by decide +kernel
theorem sinP_Fb {u : Option Nat} (hu : Fb .f64 u 12) : ∀ j : Nat, j ≤ 8 → Fb .f64 (sinP u j) (11 * j)
  | 0, _ => Fb.of one_Lb
  | j + 1, hj => by
    have ih := sinP_Fb hu j (by omega)
    have hk := sinK_tab ⟨j, by omega⟩
    dsimp only at hk
    have h1 := Fb.mul hu ih (inR (by omega) (by omega))
    have h2 := Fb.quo (L := 2) h1 ⟨_, rfl, Lo_rung (x := sinK j) (by omega) (by simpa using hk.1) hk.2.1 _ rfl⟩ (inR (by omega) (by omega))
    exact (Fb.sub ((Fb.of one_Lb).mono (U := 12 + 11 * (j : Int) - 2) (by omega)) h2 (inR (by omega) (by omega))).mono (by omega)
theorem sinA_Fb {f : Option Nat} (hf : Fb .f64 f 1) : Fb .f64 (sinA f) 2 := by
  unfold sinA; split
  · exact Fb.sub hf ((Fb.of half_Lb).mono (by omega)) (inR (by omega) (by omega))
  · exact hf.mono (by omega)
theorem sinB_Fb {f : Option Nat} (hf : Fb .f64 f 2) : Fb .f64 (sinB f) 3 := by
  unfold sinB; split
  · exact Fb.sub ((Fb.of half_Lb).mono (by omega)) hf (inR (by omega) (by omega))
  · exact hf.mono (by omega)
theorem sinV_Fb {f : Option Nat} (hf : Fb .f64 f 1) : Fb .f64 (sinV f) 94 := by
  have hz : Fb .f64 (sinZ f) 6 := Fb.mul (sinB_Fb (sinA_Fb hf)) (Fb.of twopi_Lb) (inR (by omega) (by omega))
  have hu := Fb.mul hz hz (inR (by omega) (by omega))
  exact (Fb.mul hz (sinP_Fb (hu.mono (by omega)) 8 (by omega)) (inR (by omega) (by omega))).mono (by omega)
theorem Fb.neg {c : Option Nat} {T : Int} (h : Fb .f64 c T) (hc : ∀ x, c = some x → x < 18446744073709551616 ∧ cn .f64 x = some x) : Fb .f64 (cneg c) T := by
  obtain ⟨x, rfl, s, m, e, hd, hb⟩ := h
  obtain ⟨hx, cx⟩ := hc x rfl
  have en := negFloat_eq x hx
  have hinf : x % 9223372036854775808 < 9218868437227405312 := by
    have h1 := le_of_cn cx
    rw [f64_sign, f64_inf] at h1
    rcases Nat.lt_or_eq_of_le h1 with h | h
    · exact h
    · have := read_inf .f64 x (by rw [f64_sign]; omega) (by rw [f64_sign, f64_inf]; exact h)
      rw [this] at hd; cases hd
  obtain ⟨m1, e1, hd1, hl1, hv1⟩ := read_num .f64 x (by rw [f64_sign]; omega) (by rw [f64_sign, f64_inf]; exact hinf)
  refine ⟨_, rfl, ?_⟩
  have hd2 : ∃ s2, FloatKind.f64.decode (Op.negFloat .f64 x) = .number s2 m1 e1 := by
    have hm : Op.negFloat .f64 x % 9223372036854775808 = x % 9223372036854775808 := by rw [en]; split <;> omega
    unfold FloatKind.decode Ieee.Format.read at hd1 ⊢
    dsimp only at hd1 ⊢
    rw [f64_sign] at hd1 ⊢
    rw [hm]
    split at hd1
    · rename_i hh; rw [if_pos hh]; simp only [Ieee.Datum.number.injEq] at hd1; obtain ⟨_, rfl, rfl⟩ := hd1; exact ⟨_, rfl⟩
    · rename_i hh
      rw [if_neg hh]
      split at hd1
      · rename_i hh2; rw [if_pos hh2]; simp only [Ieee.Datum.number.injEq] at hd1; obtain ⟨_, rfl, rfl⟩ := hd1; exact ⟨_, rfl⟩
      · split at hd1 <;> cases hd1
  obtain ⟨s2, hd2⟩ := hd2
  rw [hd] at hd1
  cases hd1
  exact ⟨s2, m, e, hd2, hb⟩

theorem cop_word {op : BinOp} {c d : Option Nat} {x : Nat} (h : cop op .f64 c d = some x) (hn : cn .f64 x = some x) : x < 18446744073709551616 ∧ cn .f64 x = some x := by
  refine ⟨?_, hn⟩
  cases c with
  | none => cases h
  | some a =>
    cases d with
    | none => cases h
    | some b =>
      have := wf_sign (floatBits_wf (op := op) (k := .f64) h)
      rw [f64_sign] at this
      omega
theorem Db.cn {k : FloatKind} {x : Nat} {T : Int} (h : Db (k.decode x) T) : Proofs.YticeapacffgikaaGreatDoor.cn k x = some x := by
  obtain ⟨s, m, e, hd, _⟩ := h
  unfold Proofs.YticeapacffgikaaGreatDoor.cn; rw [hd]; rfl
theorem sinC_Fb {f : Option Nat} (hf : Fb .f64 f 1) : Fb .f64 (sinC f) 94 := by
  have h := sinV_Fb hf
  unfold sinC; split
  · refine h.neg fun x hx => ?_
    obtain ⟨y, hy, hd⟩ := h
    rw [hx] at hy; cases hy
    exact cop_word (show cop .mul .f64 (sinZ f) (sinP (cop .mul .f64 (sinZ f) (sinZ f)) 8) = some x from hx) hd.cn
  · exact h

theorem sub_self64 {x : Nat} (hx : x < 18446744073709551616) (a : x % 9223372036854775808 < 9218868437227405312) : cop .sub .f64 (some x) (some x) = some 0 := by
  have hu : FloatKind.f64.format.sub x x = ((FloatKind.f64.decode x).sum (FloatKind.f64.decode x).opposite).map FloatKind.f64.format.write := rfl
  show FloatKind.f64.format.sub x x = _
  rw [hu]
  obtain ⟨m, e, hd, _⟩ := read_num .f64 x (by rw [f64_sign]; omega) (by rw [f64_sign, f64_inf]; exact a)
  rw [hd]
  simp only [Ieee.Datum.opposite, Ieee.Datum.sum, Option.map_some]
  have ht : Ieee.signed (sgn .f64 x) m (e - min e e).toNat + Ieee.signed (!sgn .f64 x) m (e - min e e).toNat = 0 := by
    rw [signed_eq, signed_eq]
    cases sgn .f64 x <;> simp <;> omega
  rw [ht]
  have hb : (sgn .f64 x && !sgn .f64 x) = false := by cases sgn .f64 x <;> rfl
  rw [if_pos rfl, hb]
  refine congrArg some ?_
  show FloatKind.f64.format.nearest false (Int.natAbs 0) _ = 0
  rw [Int.natAbs_zero, nearest_zero]
  rfl
theorem run_sub_self (y : Nat) (hy : y < 18446744073709551616) (h : y % 9223372036854775808 < 9218868437227405312) (t : TypeId) (w : World) :
    (binOp .sub t (.float .f64 y) (.float .f64 y)).run Tryz.prog w = .ok (.float .f64 0) w := run_float_arith w .sub t .f64 y _ _ (sub_self64 hy h)
theorem run_neg (k : FloatKind) (x : Nat) (w : World) : (Op.unary .neg (.float k x)).run Tryz.prog w = .ok (.float k (Op.negFloat k x)) w := rfl
theorem neq00 : (FloatKind.f64.format.order 0 0 != some .eq) = false := by decide

/-- how a number stands to 2^52 -/
theorem ord52 (y : Nat) (hy : y < 18446744073709551616) (h : y % 9223372036854775808 < 9218868437227405312) :
    (FloatKind.f64.format.order y 4841369599423283200 == some .gt || FloatKind.f64.format.order y 4841369599423283200 == some .eq) = (decide (y < 9223372036854775808) && decide (4841369599423283200 ≤ y)) ∧
    (FloatKind.f64.format.order y 14064741636278059008 == some .lt || FloatKind.f64.format.order y 14064741636278059008 == some .eq) = decide (14064741636278059008 ≤ y) := by
  have cy : cn .f64 y = some y := cn_of_le _ _ (by rw [f64_sign, f64_inf]; omega)
  have c1 : cn .f64 4841369599423283200 = some 4841369599423283200 := by decide
  have c2 : cn .f64 14064741636278059008 = some 14064741636278059008 := by decide
  rw [order_sr .f64 y _ (by rw [f64_sign]; omega) (by rw [f64_sign]; omega) cy c1, order_sr .f64 y _ (by rw [f64_sign]; omega) (by rw [f64_sign]; omega) cy c2]
  have e1 : sr .f64 4841369599423283200 = 4841369599423283200 := by decide
  have e2 : sr .f64 14064741636278059008 = -4841369599423283200 := by decide
  rw [e1, e2]
  have e3 : sr .f64 y = if 9223372036854775808 ≤ y then -((y % 9223372036854775808 : Nat) : Int) else ((y % 9223372036854775808 : Nat) : Int) := by unfold sr; rw [f64_sign]
  rw [e3]
  constructor
  · rcases Int.lt_trichotomy (if 9223372036854775808 ≤ y then -((y % 9223372036854775808 : Nat) : Int) else ((y % 9223372036854775808 : Nat) : Int)) 4841369599423283200 with q | q | q
    · rw [Int.compare_eq_lt.2 q]
      have : (decide (y < 9223372036854775808) && decide (4841369599423283200 ≤ y)) = false := by
        rw [Bool.and_eq_false_iff]; simp only [decide_eq_false_iff_not]; split at q <;> omega
      rw [this]; rfl
    · rw [Int.compare_eq_eq.2 q]
      have : (decide (y < 9223372036854775808) && decide (4841369599423283200 ≤ y)) = true := by
        rw [Bool.and_eq_true]; simp only [decide_eq_true_eq]; split at q <;> omega
      rw [this]; rfl
    · rw [Int.compare_eq_gt.2 q]
      have : (decide (y < 9223372036854775808) && decide (4841369599423283200 ≤ y)) = true := by
        rw [Bool.and_eq_true]; simp only [decide_eq_true_eq]; split at q <;> omega
      rw [this]; rfl
  · rcases Int.lt_trichotomy (if 9223372036854775808 ≤ y then -((y % 9223372036854775808 : Nat) : Int) else ((y % 9223372036854775808 : Nat) : Int)) (-4841369599423283200) with q | q | q
    · rw [Int.compare_eq_lt.2 q]
      have : decide (14064741636278059008 ≤ y) = true := by simp only [decide_eq_true_eq]; split at q <;> omega
      rw [this]; rfl
    · rw [Int.compare_eq_eq.2 q]
      have : decide (14064741636278059008 ≤ y) = true := by simp only [decide_eq_true_eq]; split at q <;> omega
      rw [this]; rfl
    · rw [Int.compare_eq_gt.2 q]
      have : decide (14064741636278059008 ≤ y) = false := by simp only [decide_eq_false_iff_not]; split at q <;> omega
      rw [this]; rfl

theorem ptC_eq (y : Nat) : ptC (some y) = if lssK (cop .sub .f64 (some y) (some (fi (tI y)))) 0 = true then cop .add .f64 (cop .sub .f64 (some y) (some (fi (tI y)))) (some 4607182418800017408) else cop .sub .f64 (some y) (some (fi (tI y))) := rfl

/-! the program's sine -/
theorem run_trunc (x : Nat) (c : cn .f64 x = some x) (w : World) : (callFunc 88 #[.float .f64 x]).run Tryz.prog w = .ok (.value (.float .f64 (FloatKind.f64.encode ((FloatKind.f64.decode x).integral .zero)))) w := by
  have e : (callFunc 88 #[.float .f64 x]).run Tryz.prog w = ((Extern.MathFloor.toIntegral "math.archTrunc" .zero #[.float .f64 x]).run Tryz.prog w).andThen fun v w' => .ok (.value v) w' := by
    exact run_callFunc_extern Tryz.func88 (by kernel_rfl) (by kernel_rfl) (by kernel_rfl) (by kernel_rfl) _ w
  rw [e, run_whole _ _ _ _ _ c]; rfl

set_option maxHeartbeats 400000 in
theorem math_Trunc (x : Nat) (c : cn .f64 x = some x) (w : World) : Calls Tryz.prog 69 #[.float .f64 x] w (RetV (.float .f64 (FloatKind.f64.encode ((FloatKind.f64.decode x).integral .zero))) w) := by
  have e := run_trunc x c
  clear c
  go_enter Tryz.func69, Tryz.ntmps69
  go_wp2
  go_ret
  exact RetV.mk0 rfl

set_option maxHeartbeats 1000000 in
theorem impl_partOfTurn (y : Nat) (hy : y < 18446744073709551616) (hs : y % 9223372036854775808 < 4841369599423283200) (w : World) :
    Calls Tryz.prog 57 #[.float .f64 y] w (RetF .f64 (ptC (some y)) w) := by
  obtain ⟨cy, hI, cfi, ⟨x, hx, cx, ht⟩, t2⟩ := trunc_part y hy hs
  have key : ∀ (r nd : Nat), FE .f64 r (cop .sub .f64 (some y) (some (fi (tI y)))) → True := fun _ _ _ => trivial
  have CY := Lib.hid cy
  have CF := Lib.hid cfi
  have X := Lib.hid hx
  rcases ht with ⟨ho, hz⟩ | ⟨ho, hz⟩
  · have Z := Lib.hid hz
    clear hI cfi hx cx t2 key hz cy
    go_enter Tryz.func57, Tryz.ntmps57
    go_wp2_with (go_at_call 69; refine (math_Trunc y CY.out _).mono ?_; rw [X.out]; rintro _ _ ⟨nd, rfl, rfl⟩)
    with_reducible refine up_sub _ _ _ _ _ ?_
    intro r nd hr
    go_upto_if 13 with fail
    have hE : FE .f64 r (cop .sub .f64 (some y) (some (fi (tI y)))) := by
      refine hr.cast ?_
      rw [CY.out, Z.out, cn_zero64]
    have hl := lss_is hE cn_zero64
    generalize (FloatKind.f64.format.order r 0 == some .lt) = b at hl ⊢
    have L := Lib.hid (And.intro hl hE)
    clear hl hE hr
    cases b with
    | true =>
      go_wp2_with (((first | with_reducible refine up_add _ _ _ _ _ ?_ | with_reducible refine up_sub _ _ _ _ _ ?_ | with_reducible refine up_mul _ _ _ _ _ ?_ | with_reducible refine up_quo _ _ _ _ _ ?_)); intro r nd hr)
      go_ret
      refine RetF.mk (hr.cast ?_)
      rw [ptC_eq, if_pos L.out.1.symm, L.out.2.out, one_cn]
    | false =>
      go_wp2_with (((first | with_reducible refine up_add _ _ _ _ _ ?_ | with_reducible refine up_sub _ _ _ _ _ ?_ | with_reducible refine up_mul _ _ _ _ _ ?_ | with_reducible refine up_quo _ _ _ _ _ ?_)); intro r nd hr)
      go_ret
      refine RetF.mk ?_
      rw [ptC_eq, if_neg (by rw [← L.out.1]; exact Bool.false_ne_true)]
      exact L.out.2
  · have Z := Lib.hid hz
    clear hI cfi hx cx t2 key hz cy
    go_enter Tryz.func57, Tryz.ntmps57
    go_wp2_with (go_at_call 69; refine (math_Trunc y CY.out _).mono ?_; rw [X.out]; rintro _ _ ⟨nd, rfl, rfl⟩)
    with_reducible refine up_sub _ _ _ _ _ ?_
    intro r nd hr
    go_upto_if 13 with fail
    have hE : FE .f64 r (cop .sub .f64 (some y) (some (fi (tI y)))) := by
      refine hr.cast ?_
      rw [CY.out, Z.out, ← Z.out, CF.out]
    have hl := lss_is hE cn_zero64
    generalize (FloatKind.f64.format.order r 0 == some .lt) = b at hl ⊢
    have L := Lib.hid (And.intro hl hE)
    clear hl hE hr
    cases b with
    | true =>
      go_wp2_with (((first | with_reducible refine up_add _ _ _ _ _ ?_ | with_reducible refine up_sub _ _ _ _ _ ?_ | with_reducible refine up_mul _ _ _ _ _ ?_ | with_reducible refine up_quo _ _ _ _ _ ?_)); intro r nd hr)
      go_ret
      refine RetF.mk (hr.cast ?_)
      rw [ptC_eq, if_pos L.out.1.symm, L.out.2.out, one_cn]
    | false =>
      go_wp2_with (((first | with_reducible refine up_add _ _ _ _ _ ?_ | with_reducible refine up_sub _ _ _ _ _ ?_ | with_reducible refine up_mul _ _ _ _ _ ?_ | with_reducible refine up_quo _ _ _ _ _ ?_)); intro r nd hr)
      go_ret
      refine RetF.mk ?_
      rw [ptC_eq, if_neg (by rw [← L.out.1]; exact Bool.false_ne_true)]
      exact L.out.2

theorem sin_tab : ∀ j : Fin 8, (FloatKind.f64.format.order (fi (8 - (j.val : Int))) 4607182418800017408 == some .gt || FloatKind.f64.format.order (fi (8 - (j.val : Int))) 4607182418800017408 == some .eq) = true ∧
    cop .mul .f64 (some 4611686018427387904) (some (fi (8 - (j.val : Int)))) = some (fi (2 * (8 - (j.val : Int)))) ∧
    cop .add .f64 (some (fi (2 * (8 - (j.val : Int))))) (some 4607182418800017408) = some (fi (2 * (8 - (j.val : Int)) + 1)) ∧
    cop .mul .f64 (some (fi (2 * (8 - (j.val : Int))))) (some (fi (2 * (8 - (j.val : Int)) + 1))) = some (sinK j.val) ∧
    cop .sub .f64 (some (fi (8 - (j.val : Int)))) (some 4607182418800017408) = some (fi (8 - ((j.val + 1 : Nat) : Int))) ∧
    cn .f64 (fi (8 - (j.val : Int))) = some (fi (8 - (j.val : Int))) ∧
    kLeft (.float .f64 (fi (8 - ((j.val + 1 : Nat) : Int)))) < kLeft (.float .f64 (fi (8 - (j.val : Int)))) := by decide +kernel
theorem sin_end : (FloatKind.f64.format.order (fi (8 - ((8 : Nat) : Int))) 4607182418800017408 == some .gt || FloatKind.f64.format.order (fi (8 - ((8 : Nat) : Int))) 4607182418800017408 == some .eq) = false := by decide +kernel
theorem sin_k (j kk : Nat) (hj : j < 8) (hk : kk = fi (8 - (j : Int))) :
    (FloatKind.f64.format.order kk 4607182418800017408 == some .gt || FloatKind.f64.format.order kk 4607182418800017408 == some .eq) = true ∧
    cop .mul .f64 (some 4611686018427387904) (some kk) = some (fi (2 * (8 - (j : Int)))) ∧
    cop .add .f64 (some (fi (2 * (8 - (j : Int))))) (some 4607182418800017408) = some (fi (2 * (8 - (j : Int)) + 1)) ∧
    cop .mul .f64 (some (fi (2 * (8 - (j : Int))))) (some (fi (2 * (8 - (j : Int)) + 1))) = some (sinK j) ∧
    cop .sub .f64 (some kk) (some 4607182418800017408) = some (fi (8 - ((j + 1 : Nat) : Int))) ∧
    cn .f64 kk = some kk ∧
    kLeft (.float .f64 (fi (8 - ((j + 1 : Nat) : Int)))) < kLeft (.float .f64 (fi (8 - (j : Int)))) := by
  subst hk
  exact sin_tab ⟨j, hj⟩

set_option maxHeartbeats 1000000 in
theorem impl_sine (y : Nat) (hy : y < 18446744073709551616) (hs : y % 9223372036854775808 < 4841369599423283200) (w : World) :
    Calls Tryz.prog 42 #[.float .f64 y] w (RetF .f64 (sinC (ptC (some y))) w) := by
  have HS := Lib.hid hs
  clear hs
  go_enter Tryz.func42, Tryz.ntmps42
  go_upto_region 2 with (go_at_call 57; refine (impl_partOfTurn y hy HS.out _).mono ?_; rintro _ _ ⟨f, nq, rfl, hf0, rfl⟩; have hf := Lib.hid hf0; clear hf0)
  go_upto_if 12 with fail
  go_cut [3, 4] (fun s3 s4 wx => ∃ (f2 : Nat) (b : Bool) (nq : Nat), s3 = .float .f64 f2 ∧ s4 = .bool b ∧ Hid (b = geqK (ptC (some y)) 4602678819172646912 ∧ FE .f64 f2 (sinA (ptC (some y)))) ∧ wx = w.drewN nq)
  case first =>
    have hl := geq_is hf.out half_cn
    generalize (FloatKind.f64.format.order f 4602678819172646912 == some .gt || FloatKind.f64.format.order f 4602678819172646912 == some .eq) = b at hl ⊢
    have L := Lib.hid (And.intro hl hf.out)
    clear hl hf
    cases b with
    | true =>
      go_wp2_with (((first | with_reducible refine up_add _ _ _ _ _ ?_ | with_reducible refine up_sub _ _ _ _ _ ?_ | with_reducible refine up_mul _ _ _ _ _ ?_ | with_reducible refine up_quo _ _ _ _ _ ?_)); intro r nd hr)
      go_meet
      case rel =>
      refine ⟨_, _, _, rfl, rfl, ⟨L.out.1, hr.cast ?_⟩, rfl⟩
      unfold sinA
      rw [if_pos L.out.1.symm, L.out.2.out, half_cn]
    | false =>
      go_wp2_with (((first | with_reducible refine up_add _ _ _ _ _ ?_ | with_reducible refine up_sub _ _ _ _ _ ?_ | with_reducible refine up_mul _ _ _ _ _ ?_ | with_reducible refine up_quo _ _ _ _ _ ?_)); intro r nd hr)
      go_meet
      case rel =>
      refine ⟨_, _, _, rfl, rfl, ⟨L.out.1, ?_⟩, rfl⟩
      unfold sinA
      rw [if_neg (by rw [← L.out.1]; exact Bool.false_ne_true)]
      exact L.out.2
  case rest =>
    obtain ⟨f2, b, nq, rfl, rfl, hf2, rfl⟩ := hcut
    clear hf
    go_upto_if 16 with fail
    go_cut [3] (fun s3 wx => ∃ (f3 : Nat) (nq : Nat), s3 = .float .f64 f3 ∧ Hid (FE .f64 f3 (sinB (sinA (ptC (some y))))) ∧ wx = w.drewN nq)
    case first =>
      have hl := gtr_is hf2.out.2 quarter_cn
      generalize (FloatKind.f64.format.order f2 4598175219545276416 == some .gt) = b2 at hl ⊢
      have L := Lib.hid (And.intro hl hf2.out.2)
      clear hl hf2
      cases b2 with
      | true =>
        go_wp2_with (((first | with_reducible refine up_add _ _ _ _ _ ?_ | with_reducible refine up_sub _ _ _ _ _ ?_ | with_reducible refine up_mul _ _ _ _ _ ?_ | with_reducible refine up_quo _ _ _ _ _ ?_)); intro r nd hr)
        go_meet
        case rel =>
        refine ⟨_, _, rfl, hr.cast ?_, rfl⟩
        conv => rhs; unfold sinB
        rw [if_pos L.out.1.symm, L.out.2.out, half_cn]
      | false =>
        go_wp2_with (((first | with_reducible refine up_add _ _ _ _ _ ?_ | with_reducible refine up_sub _ _ _ _ _ ?_ | with_reducible refine up_mul _ _ _ _ _ ?_ | with_reducible refine up_quo _ _ _ _ _ ?_)); intro r nd hr)
        go_meet
        case rel =>
        refine ⟨_, _, rfl, ?_, rfl⟩
        show FE .f64 _ _
        unfold sinB
        rw [if_neg (by rw [← L.out.1]; exact Bool.false_ne_true)]
        exact L.out.2
    case rest =>
      obtain ⟨f3, nq, rfl, hf3, rfl⟩ := hcut
      have HB := Lib.hid hf2.out.1
      clear hf2
      go_upto_region 7 with (((first | with_reducible refine up_add _ _ _ _ _ ?_ | with_reducible refine up_sub _ _ _ _ _ ?_ | with_reducible refine up_mul _ _ _ _ _ ?_ | with_reducible refine up_quo _ _ _ _ _ ?_)); intro r nd hr)
      have HZ := Lib.hid (show FE .f64 r (sinZ (ptC (some y))) from hr.cast (by rw [hf3.out.out, twopi_cn]; rfl))
      clear hr hf3
      go_wp2_with (((first | with_reducible refine up_add _ _ _ _ _ ?_ | with_reducible refine up_sub _ _ _ _ _ ?_ | with_reducible refine up_mul _ _ _ _ _ ?_ | with_reducible refine up_quo _ _ _ _ _ ?_)); intro r nd hr)
      have HU := Lib.hid (show FE .f64 r (cop .mul .f64 (sinZ (ptC (some y))) (sinZ (ptC (some y)))) from hr.cast (by rw [HZ.out.out]))
      clear hr
      go_loopw [7, 8] (fun q k wr => ∃ (j : Nat) (rq nq kk : Nat), j ≤ 8 ∧ k = .float .f64 kk ∧ q = .float .f64 rq ∧ Hid (kk = fi (8 - (j : Int)) ∧ FE .f64 rq (sinP (cop .mul .f64 (sinZ (ptC (some y))) (sinZ (ptC (some y)))) j)) ∧ wr = w.drewN nq) (fun _ k _ => kLeft k)
      case atStart => exact ⟨0, _, _, _, by omega, rfl, rfl, ⟨by decide, one_cn, by decide⟩, rfl⟩
      case round =>
        obtain ⟨j, rq, nq, kk, hj, rfl, rfl, hk, rfl⟩ := hrel
        by_cases hj2 : j < 8
        · obtain ⟨s1, s2, s3, s4, s5, s6, s7⟩ := sin_k j kk hj2 hk.out.1
          have hm1 : ∀ t w, (binOp .mul t (.float .f64 4611686018427387904) (.float .f64 kk)).run Tryz.prog w = .ok (.float .f64 (fi (2 * (8 - (j : Int))))) w := fun t w => run_float_arith w .mul t .f64 _ _ _ s2
          obtain ⟨k2, hk2⟩ : ∃ k2, k2 = fi (2 * (8 - (j : Int))) := ⟨_, rfl⟩
          rw [← hk2] at hm1 s3 s4
          have hm2 : ∀ t w, (binOp .add t (.float .f64 k2) (.float .f64 4607182418800017408)).run Tryz.prog w = .ok (.float .f64 (fi (2 * (8 - (j : Int)) + 1))) w := fun t w => run_float_arith w .add t .f64 _ _ _ s3
          obtain ⟨k3, hk3⟩ : ∃ k3, k3 = fi (2 * (8 - (j : Int)) + 1) := ⟨_, rfl⟩
          rw [← hk3] at hm2 s4
          have hm3 : ∀ t w, (binOp .mul t (.float .f64 k2) (.float .f64 k3)).run Tryz.prog w = .ok (.float .f64 (sinK j)) w := fun t w => run_float_arith w .mul t .f64 _ _ _ s4
          have hm4 : ∀ t w, (binOp .sub t (.float .f64 kk) (.float .f64 4607182418800017408)).run Tryz.prog w = .ok (.float .f64 (fi (8 - ((j + 1 : Nat) : Int)))) w := fun t w => run_float_arith w .sub t .f64 _ _ _ s5
          obtain ⟨k4, hk4⟩ : ∃ k4, k4 = fi (8 - ((j + 1 : Nat) : Int)) := ⟨_, rfl⟩
          rw [← hk4] at hm4
          obtain ⟨k5, hk5⟩ : ∃ k5, k5 = sinK j := ⟨_, rfl⟩
          rw [← hk5] at hm3
          have HK := Lib.hid (And.intro hk4 hk5)
          have HS := Lib.hid (And.intro s6 s7)
          clear hk2 hk3 hk4 hk5 s2 s3 s4 s5 s6 s7
          go_wp2_with (((first | with_reducible refine up_add _ _ _ _ _ ?_ | with_reducible refine up_sub _ _ _ _ _ ?_ | with_reducible refine up_mul _ _ _ _ _ ?_ | with_reducible refine up_quo _ _ _ _ _ ?_)); intro r nd hr)
          go_roundw
          case rel =>
            refine ⟨j + 1, _, _, _, by omega, rfl, rfl, ⟨HK.out.1, ?_⟩, rfl⟩
            refine hr.cast ?_
            go_tidy
            have hk1 := hk.out.2.out
            have K1 := HK.out.2
            have hc := (sinK_tab ⟨j, hj2⟩).2.2
            dsimp only at hc
            have hu1 := HU.out.out
            clear hk HZ HB HK HS HU
            simp_all [FE, sinP, one_cn]
          case measure =>
            have h1 := HS.out.2
            have h2 := HK.out.1
            have h3 := hk.out.1
            simp only [kLeft, h2, h3]; exact h1
        · obtain rfl : j = 8 := by omega
          have hend : (FloatKind.f64.format.order kk 4607182418800017408 == some .gt || FloatKind.f64.format.order kk 4607182418800017408 == some .eq) = false := by rw [hk.out.1]; exact sin_end
          have HK := Lib.hid hk.out.2
          clear hk
          have hneg := run_neg
          cases b with
          | true =>
            go_wp2_with (((first | with_reducible refine up_add _ _ _ _ _ ?_ | with_reducible refine up_sub _ _ _ _ _ ?_ | with_reducible refine up_mul _ _ _ _ _ ?_ | with_reducible refine up_quo _ _ _ _ _ ?_)); intro r nd hr)
            go_ret
            have hb := HB.out
            refine RetF.mk ((FE_neg hr).cast ?_)
            rw [HZ.out.out, HK.out.out]
            unfold sinC
            rw [if_pos hb.symm]
            rfl
          | false =>
            go_wp2_with (((first | with_reducible refine up_add _ _ _ _ _ ?_ | with_reducible refine up_sub _ _ _ _ _ ?_ | with_reducible refine up_mul _ _ _ _ _ ?_ | with_reducible refine up_quo _ _ _ _ _ ?_)); intro r nd hr)
            go_ret
            have hb := HB.out
            refine RetF.mk (hr.cast ?_)
            rw [HZ.out.out, HK.out.out]
            unfold sinC
            rw [if_neg (by rw [← hb]; exact Bool.false_ne_true)]
            rfl


/-! all 32-bit numbers -/
theorem cop_none_l {op : BinOp} {k : FloatKind} {d : Option Nat} : cop op k none d = none := by cases d <;> rfl
theorem sub_self_none {y : Nat} (hy : y < 18446744073709551616) (h2 : ¬ y % 9223372036854775808 < 9218868437227405312) : cop .sub .f64 (cn .f64 y) (cn .f64 y) = none := by
  rcases cn_cases .f64 y with c | c
  · rw [c]; rfl
  · have hl := le_of_cn c
    rw [f64_sign, f64_inf] at hl
    have hd := read_inf .f64 y (by rw [f64_sign]; omega) (by rw [f64_sign, f64_inf]; omega)
    rw [c]
    show ((FloatKind.f64.decode y).sum (FloatKind.f64.decode y).opposite).map FloatKind.f64.format.write = none
    rw [hd]
    cases sgn .f64 y <;> rfl
theorem order_neq_none {r k : Nat} (h : cn .f64 r = none) : (FloatKind.f64.format.order r k != some .eq) = true := by rw [order_none_left h]; rfl

/-- the sine of a 32-bit number of turns, in 64 bits -/
def sinW : Option Nat → Option Nat
  | none => none
  | some x => if x % 2147483648 < 2139095040 then
      if ((cconv .f32 .f64 (some x)).getD 0) % 9223372036854775808 < 4841369599423283200 then sinC (ptC (cconv .f32 .f64 (some x))) else some 0
    else none

theorem up_bad {x R : Nat} (hx : x < 4294967296) (h : ¬ (x % 2147483648 < 2139095040)) (hR : FE .f64 R (cconv .f32 .f64 (cn .f32 x))) : ¬ R % 9223372036854775808 < 9218868437227405312 := by
  rcases cn_cases .f32 x with c | c
  · rw [c] at hR
    intro hlt
    have := cn_of_le .f64 R (by rw [f64_sign, f64_inf]; omega)
    rw [hR.out] at this; cases this
  · obtain ⟨X, eX, lX, cX, sX, _, i⟩ := up_spec x hx c
    obtain rfl := FE_num hR c eX
    have := i (by have := cn_or32 c; omega)
    omega
theorem up_good {x X : Nat} (hx : x < 4294967296) (c : cn .f32 x = some x) (eX : cconv .f32 .f64 (some x) = some X) (h : x % 2147483648 < 2139095040) : X < 18446744073709551616 ∧ X % 9223372036854775808 < 9218868437227405312 := by
  obtain ⟨Y, eY, lY, cY, sY, f, i⟩ := up_spec x hx c
  rw [eX] at eY; cases eY
  exact ⟨lY, (f h).1⟩

theorem fits_sinW (x : Nat) (hx : x < 4294967296) : Fits .f64 .f32 (sinW (cn .f32 x)) := by
  rcases cn_cases .f32 x with c | c
  · rw [c]; trivial
  · rw [c]
    simp only [sinW]
    split
    · rename_i h
      obtain ⟨X, eX, lX, cX, sX, _, _⟩ := up_spec x hx c
      rw [eX, Option.getD_some]
      split
      · rename_i hs
        exact (sinC_Fb (ptC_Fb X lX hs)).Lb.fits (by omega)
      · exact ((Fb.of (zero_Lb (T := 0) (by omega) (by omega))).Lb).fits (by omega)
    · trivial

def sinNC (c : Option Nat) : Option Nat := cconv .f64 .f32 (sinW c)

theorem geq52 {y : Nat} (h2 : y % 9223372036854775808 < 9218868437227405312) :
    (FloatKind.f64.format.order (y % 9223372036854775808) 4841369599423283200 == some .gt || FloatKind.f64.format.order (y % 9223372036854775808) 4841369599423283200 == some .eq) = decide (4841369599423283200 ≤ y % 9223372036854775808) := geq_pos h2 (by omega)

set_option maxHeartbeats 400000 in
theorem impl_isHuge (y : Nat) (hy : y < 18446744073709551616) (h2 : y % 9223372036854775808 < 9218868437227405312) (w : World) :
    Calls Tryz.prog 41 #[.float .f64 y] w (RetV (.bool (decide (4841369599423283200 ≤ y % 9223372036854775808))) w) := by
  have H := Lib.hid (geq52 h2)
  clear h2
  go_enter Tryz.func41, Tryz.ntmps41
  go_wp2_with (go_at_call 36; refine (math_Abs _ hy _).mono ?_; rintro _ _ ⟨nd, rfl, rfl⟩)
  go_ret
  rw [H.out]
  exact RetV.mk rfl

set_option maxHeartbeats 1000000 in
theorem impl_SineTurns (x : Nat) (hx : x < 4294967296) (w : World) :
    Calls Tryz.prog 19 #[.float .f32 x] w (RetF .f32 (sinNC (cn .f32 x)) w) := by
  have HM := Lib.hid fits_nan
  by_cases h : x % 2147483648 < 2139095040
  · have c : cn .f32 x = some x := cn_of_le _ _ (by rw [f32_sign, f32_inf]; omega)
    have F := Lib.hid (show isFin (cn .f32 x) = true by rw [c, isFin_some hx c]; simpa using h)
    obtain ⟨X, eX, lX, cX, sX, _, _⟩ := up_spec x hx c
    obtain ⟨_, g2⟩ := up_good hx c eX h
    have C := Lib.hid (And.intro c eX)
    by_cases hs : X % 9223372036854775808 < 4841369599423283200
    · have e : sinW (some x) = sinC (ptC (some X)) := by simp only [sinW]; rw [if_pos h, eX, Option.getD_some, if_pos hs]
      have hf := (sinC_Fb (ptC_Fb X lX hs)).Lb.fits (show (94 : Int) ≤ 126 by omega)
      have HF := Lib.hid (And.intro e hf)
      have HS := Lib.hid (And.intro hs g2)
      have H3 := Lib.hid (show decide (4841369599423283200 ≤ X % 9223372036854775808) = false by simp only [decide_eq_false_iff_not]; omega)
      clear e hf hs g2 c eX cX sX h
      go_enter Tryz.func19, Tryz.ntmps19
      go_wp2_with (first | (go_at_call 40; refine (impl_IsFinite _ _).mono ?_; rw [F.out]; rintro _ _ ⟨nd, rfl, rfl⟩) | ((with_reducible refine up_up _ _ ?_); intro r nd hr) | (go_at_call 41; obtain rfl := FE_num hr C.out.1 C.out.2; refine (impl_isHuge _ lX HS.out.2 _).mono ?_; rw [H3.out]; rintro _ _ ⟨nd, rfl, rfl⟩) | (go_at_call 42; obtain rfl := FE_num hr C.out.1 C.out.2; refine (impl_sine _ lX HS.out.1 _).mono ?_; rintro _ _ ⟨r, nd, rfl, hr, rfl⟩) | ((with_reducible refine up_down _ _ ?hf ?_); rotate_left; intro r nd hr))
      case hf => rw [hr.out]; exact HF.out.2
      go_ret
      refine RetF.mk (hr.cast ?_)
      go_tidy
      have e1 := HF.out.1
      have c1 := C.out.1
      simp_all [FE, sinNC]
    · have e : sinW (some x) = some 0 := by simp only [sinW]; rw [if_pos h, eX, Option.getD_some, if_neg hs]
      have HF := Lib.hid e
      have HS := Lib.hid g2
      have H3 := Lib.hid (show decide (4841369599423283200 ≤ X % 9223372036854775808) = true by simp only [decide_eq_true_eq]; omega)
      clear e hs g2 c eX cX sX h
      go_enter Tryz.func19, Tryz.ntmps19
      go_wp2_with (first | (go_at_call 40; refine (impl_IsFinite _ _).mono ?_; rw [F.out]; rintro _ _ ⟨nd, rfl, rfl⟩) | ((with_reducible refine up_up _ _ ?_); intro r nd hr) | (go_at_call 41; obtain rfl := FE_num hr C.out.1 C.out.2; refine (impl_isHuge _ lX HS.out _).mono ?_; rw [H3.out]; rintro _ _ ⟨nd, rfl, rfl⟩))
      go_ret
      refine RetF.mk ⟨?_, by decide⟩
      rw [C.out.1]
      unfold sinNC
      rw [HF.out]
      decide
  · have F := Lib.hid (show isFin (cn .f32 x) = false by
      rcases cn_cases .f32 x with c | c
      · rw [c]; rfl
      · rw [c, isFin_some hx c]; simp; omega)
    have e : sinNC (cn .f32 x) = none := by
      rcases cn_cases .f32 x with c | c
      · rw [c]; rfl
      · rw [c]; simp only [sinNC, sinW]; rw [if_neg h]; rfl
    have E := Lib.hid e
    clear e h
    go_enter Tryz.func19, Tryz.ntmps19
    go_wp2_with (first | (go_at_call 40; refine (impl_IsFinite _ _).mono ?_; rw [F.out]; rintro _ _ ⟨nd, rfl, rfl⟩) | (go_at_call 38; refine (math_NaN _).mono ?_; rintro _ _ ⟨nd, rfl, rfl⟩) | ((with_reducible refine up_down _ _ ?hf ?_); rotate_left; intro r nd hr))
    case hf => exact HM.out
    go_ret
    refine RetF.mk (hr.cast ?_)
    rw [nan_cn, E.out]; rfl

end Go.Proofs.YticeapacffgikaaGreatDoor
