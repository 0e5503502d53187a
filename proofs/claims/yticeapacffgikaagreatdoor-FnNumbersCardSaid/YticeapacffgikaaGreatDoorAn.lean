/- What AngleTurns gives on both sides. -/
import Derived.Test.YticeapacffgikaaGreatDoorSi
import Derived.Test.YticeapacffgikaaGreatDoorWl
namespace Go.Proofs.YticeapacffgikaaGreatDoor
set_option maxRecDepth 100000
set_option exponentiation.threshold 3000
open Go.RowKit

/-! numbers that are not negative -/
def Fp (c : Option Nat) (T : Int) : Prop := ∃ x, c = some x ∧ x < 9223372036854775808 ∧ Db (FloatKind.f64.decode x) T
theorem Fp.Fb {c : Option Nat} {T : Int} (h : Fp c T) : Fb .f64 c T := by obtain ⟨x, e, _, d⟩ := h; exact ⟨x, e, d⟩
theorem Fp.mono {c : Option Nat} {T U : Int} (h : Fp c T) (hu : T ≤ U) : Fp c U := by obtain ⟨x, e, l, d⟩ := h; exact ⟨x, e, l, d.mono hu⟩
theorem sgn_pos {x : Nat} (h : x < 9223372036854775808) : sgn .f64 x = false := by unfold sgn; rw [f64_sign]; simp; omega
theorem pos_sgn {x : Nat} (h : sgn .f64 x = false) : x < 9223372036854775808 := by unfold sgn at h; rw [f64_sign] at h; simpa using h
theorem Fp.lt {c : Option Nat} {T : Int} (h : Fp c T) {x : Nat} (hx : c = some x) : x < 9218868437227405312 ∧ cn .f64 x = some x := by
  obtain ⟨y, e, l, d⟩ := h
  rw [hx] at e; cases e
  have c := d.cn
  refine ⟨?_, c⟩
  have h1 := le_of_cn c
  rw [f64_sign, f64_inf, Nat.mod_eq_of_lt l] at h1
  rcases Nat.lt_or_eq_of_le h1 with h | h
  · exact h
  · obtain ⟨s, m, e, hd, _⟩ := d
    have := read_inf .f64 x (by rw [f64_sign]; omega) (by rw [f64_sign, f64_inf, Nat.mod_eq_of_lt l]; exact h)
    rw [this] at hd; cases hd
theorem Fp.mul {c d : Option Nat} {T U : Int} (hc : Fp c T) (hd : Fp d U) (h1 : InR .f64 (T + U)) : Fp (cop .mul .f64 c d) (T + U) := by
  obtain ⟨r, hr, hb⟩ := Fb.mul hc.Fb hd.Fb h1
  obtain ⟨x, rfl, lx, _⟩ := hc
  obtain ⟨y, rfl, ly, _⟩ := hd
  refine ⟨r, hr, pos_sgn ?_, hb⟩
  rw [sgn_mul (by rw [f64_sign]; omega) (by rw [f64_sign]; omega) hr, sgn_pos lx, sgn_pos ly]; rfl
theorem Fp.quo {c d : Option Nat} {T L U : Int} (hc : Fp c T) (hd : Fl .f64 d L) (hp : Fp d U) (h1 : InR .f64 (T - L)) : Fp (cop .quo .f64 c d) (T - L) := by
  obtain ⟨r, hr, hb⟩ := Fb.quo hc.Fb hd h1
  obtain ⟨x, rfl, lx, _⟩ := hc
  obtain ⟨y, rfl, ly, _⟩ := hp
  refine ⟨r, hr, pos_sgn ?_, hb⟩
  rw [sgn_quo (by rw [f64_sign]; omega) (by rw [f64_sign]; omega) hr, sgn_pos lx, sgn_pos ly]; rfl
open Ieee in
theorem Fp.add {c d : Option Nat} {T : Int} (hc : Fp c T) (hd : Fp d T) (h1 : InR .f64 (T + 1)) : Fp (cop .add .f64 c d) (T + 1) := by
  obtain ⟨r, hr, hb⟩ := Fb.add hc.Fb hd.Fb h1
  obtain ⟨x, rfl, lx, sx, m, e, ex, _⟩ := hc
  obtain ⟨y, rfl, ly, sy, n, j, ey, _⟩ := hd
  refine ⟨r, hr, pos_sgn ?_, hb⟩
  have h' : FloatKind.f64.format.add x y = some r := hr
  have hu : FloatKind.f64.format.add x y = ((FloatKind.f64.decode x).sum (FloatKind.f64.decode y)).map FloatKind.f64.format.write := rfl
  rw [hu] at h'
  obtain ⟨q, hq, rfl⟩ := Option.map_eq_some_iff.1 h'
  have s1 := neg_sgn .f64 x (by rw [f64_sign]; omega)
  have s2 := neg_sgn .f64 y (by rw [f64_sign]; omega)
  rw [sgn_pos lx, ex] at s1
  rw [sgn_pos ly, ey] at s2
  have s1 : sx = false := s1
  have s2 : sy = false := s2
  subst s1; subst s2
  rw [ex, ey] at hq
  simp only [Datum.sum, Option.some.injEq] at hq
  subst hq
  rw [show FloatKind.f64.format.write _ = FloatKind.f64.encode _ from rfl, sgn_encode .f64 _ rfl]
  show (if _ then (false && false) else decide (_ < (0 : Int))) = false
  have hs : ∀ (m a : Nat), signed false m a = ((m * 2 ^ a : Nat) : Int) := by intro m a; rw [signed_eq]; simp
  rw [hs, hs]
  split
  · rfl
  · simp only [decide_eq_false_iff_not]; omega

theorem add_comm_fin {c d : Option Nat} {T U : Int} (hc : Fb .f64 c T) (hd : Fb .f64 d U) : cop .add .f64 c d = cop .add .f64 d c := by
  obtain ⟨x, rfl, sx, m, e, ex, _⟩ := hc
  obtain ⟨y, rfl, sy, n, j, ey, _⟩ := hd
  show ((FloatKind.f64.decode x).sum (FloatKind.f64.decode y)).map FloatKind.f64.format.write = ((FloatKind.f64.decode y).sum (FloatKind.f64.decode x)).map FloatKind.f64.format.write
  rw [ex, ey]
  simp only [Ieee.Datum.sum]
  rw [Int.min_comm j e, Int.add_comm (Ieee.signed sy n _), Bool.and_comm sy sx]

theorem one_Fp : Fp (some 4607182418800017408) 0 := ⟨_, rfl, by omega, one_Lb _ rfl⟩
theorem Fp.one_add {c : Option Nat} {T : Int} (hc : Fp c T) (h0 : 0 ≤ T) (h1 : T ≤ 1000) : Fp (cop .add .f64 (some 4607182418800017408) c) (T + 1) ∧ Fl .f64 (cop .add .f64 (some 4607182418800017408) c) 0 := by
  have h := Fp.add (one_Fp.mono h0) hc (inR (by omega) (by omega))
  refine ⟨h, ?_⟩
  have hcomm := add_comm_fin one_Fp.Fb hc.Fb
  rw [hcomm] at h ⊢
  obtain ⟨x, rfl, lx, d⟩ := hc
  have hx := (Fp.lt ⟨x, rfl, lx, d⟩ rfl).1
  refine Fl.of (Lo_add (L := 0) hx (by omega) (by omega) (by omega) (by decide) ?_) h.Fb
  intro r hr
  obtain ⟨y, hy, _, s, m, e, hd, _⟩ := h
  rw [hr] at hy; cases hy
  rw [hd]; rfl

theorem Fp.sqrt {c : Option Nat} {T : Int} (hc : Fp c T) (h0 : 0 ≤ T) (h1 : T ≤ 1000) : Fp (csqrt c) (T / 2 + 3) := by
  have hL := Lg.csqrt hc.Fb.Lb.toLg h0 (by omega)
  obtain ⟨x, rfl, lx, sx, m, e, hd, hb⟩ := hc
  have s1 := neg_sgn .f64 x (by rw [f64_sign]; omega)
  rw [sgn_pos lx, hd] at s1
  have s1 : sx = false := s1
  subst s1
  have hex : ∃ q, (FloatKind.f64.decode x).root (FloatKind.f64.format.fractionBits + 2) = some q := by
    rw [hd]
    unfold Ieee.Datum.root
    dsimp only
    split
    · exact ⟨_, rfl⟩
    · exact ⟨_, rfl⟩
  obtain ⟨q, hq⟩ := hex
  have hr : csqrt (some x) = some (FloatKind.f64.format.write q) := by
    show ((FloatKind.f64.decode x).root (FloatKind.f64.format.fractionBits + 2)).map FloatKind.f64.format.write = _
    rw [hq]; rfl
  refine ⟨_, hr, pos_sgn (sgn_root (by omega) (sgn_pos lx) hr), ?_⟩
  exact ((hL _ hr).toDb).mono (by omega)

/-! the angle -/
def angT (A B : Nat) : Option Nat := if B < A then cop .quo .f64 (some B) (some A) else cop .quo .f64 (some A) (some B)
def angR (t : Option Nat) : Option Nat := cop .quo .f64 t (cop .add .f64 (some 4607182418800017408) (csqrt (cop .add .f64 (some 4607182418800017408) (cop .mul .f64 t t))))
def angI (t : Option Nat) : Nat → Option Nat
  | 0 => t
  | j + 1 => angR (angI t j)
def angP (u : Option Nat) : Nat → Option Nat
  | 0 => some 0
  | j + 1 => cop .sub .f64 (cop .quo .f64 (some 4607182418800017408) (some (fi (15 - 2 * (j : Int))))) (cop .mul .f64 u (angP u j))
def angA (t : Option Nat) : Option Nat := cop .quo .f64 (cop .mul .f64 (some 4620693217682128896) (cop .mul .f64 t (angP (cop .mul .f64 t t) 8))) (some 4618760256179416344)
def ang1 (b : Bool) (a : Option Nat) : Option Nat := if b then cop .sub .f64 (some 4598175219545276416) a else a
def ang2 (b : Bool) (a : Option Nat) : Option Nat := if b then cop .sub .f64 (some 4602678819172646912) a else a
def ang3 (b : Bool) (a : Option Nat) : Option Nat := if b then cneg a else a
/-- sx, sy: is x, y less than 0? -/
def angV (A B : Nat) (sx sy : Bool) : Option Nat := ang3 sy (ang2 sx (ang1 (decide (B < A)) (angA (angI (angT A B) 3))))

theorem angR_Fp {t : Option Nat} (h : Fp t 1) : Fp (angR t) 1 := by
  have h1 := Fp.mul h h (inR (by omega) (by omega))
  obtain ⟨h2, _⟩ := Fp.one_add h1 (by omega) (by omega)
  have h3 := Fp.sqrt h2 (by omega) (by omega)
  obtain ⟨h4, h5⟩ := Fp.one_add h3 (by omega) (by omega)
  exact (Fp.quo h h5 h4 (inR (by omega) (by omega))).mono (by omega)
theorem angI_Fp {t : Option Nat} (h : Fp t 1) : ∀ j, Fp (angI t j) 1
  | 0 => h
  | j + 1 => angR_Fp (angI_Fp h j)
theorem ang_tab : ∀ j : Fin 8, 1023 * 4503599627370496 ≤ fi (15 - 2 * (j.val : Int)) ∧ fi (15 - 2 * (j.val : Int)) < 9218868437227405312 ∧ cn .f64 (fi (15 - 2 * (j.val : Int))) = some (fi (15 - 2 * (j.val : Int))) ∧
    (FloatKind.f64.format.order (fi (15 - 2 * (j.val : Int))) 4607182418800017408 == some .gt || FloatKind.f64.format.order (fi (15 - 2 * (j.val : Int))) 4607182418800017408 == some .eq) = true ∧
    cop .sub .f64 (some (fi (15 - 2 * (j.val : Int)))) (some 4611686018427387904) = some (fi (15 - 2 * ((j.val + 1 : Nat) : Int))) ∧
    kLeft (.float .f64 (fi (15 - 2 * ((j.val + 1 : Nat) : Int)))) < kLeft (.float .f64 (fi (15 - 2 * (j.val : Int)))) := by decide +kernel
theorem ang_end : (FloatKind.f64.format.order (fi (15 - 2 * ((8 : Nat) : Int))) 4607182418800017408 == some .gt || FloatKind.f64.format.order (fi (15 - 2 * ((8 : Nat) : Int))) 4607182418800017408 == some .eq) = false := by decide +kernel
theorem angP_Fb {u : Option Nat} (hu : Fb .f64 u 2) : ∀ j : Nat, j ≤ 8 → Fb .f64 (angP u j) (4 * j)
  | 0, _ => Fb.of (zero_Lb (by omega) (by omega))
  | j + 1, hj => by
    have ih := angP_Fb hu j (by omega)
    have hk := ang_tab ⟨j, by omega⟩
    dsimp only at hk
    have h1 := Fb.quo (T := 0) (L := 0) (Fb.of one_Lb) ⟨_, rfl, Lo_rung (x := fi (15 - 2 * (j : Int))) (by omega) (by simpa using hk.1) hk.2.1 _ rfl⟩ (inR (by omega) (by omega))
    have h2 := Fb.mul hu ih (inR (by omega) (by omega))
    exact (Fb.sub (h1.mono (U := 2 + 4 * (j : Int)) (by omega)) h2 (inR (by omega) (by omega))).mono (by omega)
theorem eight_Lb : Lb .f64 (some 4620693217682128896) 3 := Lb_rung (by omega) (by omega) (by omega) (by decide)
theorem twopi_Fl : Fl .f64 (some 4618760256179416344) 2 := ⟨_, rfl, Lo_rung (by omega) (by decide) (by omega) _ rfl⟩
theorem angA_Fb {t : Option Nat} (h : Fp t 1) : Fb .f64 (angA t) 40 := by
  have hu := (Fp.mul h h (inR (by omega) (by omega))).Fb
  have hp := angP_Fb (hu.mono (by omega)) 8 (by omega)
  have h1 := Fb.mul h.Fb hp (inR (by omega) (by omega))
  have h2 := Fb.mul (Fb.of eight_Lb) h1 (inR (by omega) (by omega))
  exact (Fb.quo h2 twopi_Fl (inR (by omega) (by omega))).mono (by omega)
theorem ang1_Fb {a : Option Nat} {b : Bool} {T : Int} (h : Fb .f64 a T) (h0 : 0 ≤ T) (h1 : T ≤ 100) : Fb .f64 (ang1 b a) (T + 1) := by
  unfold ang1; split
  · exact Fb.sub ((Fb.of (Lb_rung (x := 4598175219545276416) (T := 0) (by omega) (by omega) (by omega) (by decide))).mono h0) h (inR (by omega) (by omega))
  · exact h.mono (by omega)
theorem ang2_Fb {a : Option Nat} {b : Bool} {T : Int} (h : Fb .f64 a T) (h0 : 0 ≤ T) (h1 : T ≤ 100) : Fb .f64 (ang2 b a) (T + 1) := by
  unfold ang2; split
  · exact Fb.sub ((Fb.of half_Lb).mono h0) h (inR (by omega) (by omega))
  · exact h.mono (by omega)
theorem angT_Fp {A B : Nat} (hA : A = 0 ∨ 3936146074321813504 ≤ A) (hB : B = 0 ∨ 3936146074321813504 ≤ B) (hAl : A < 5183643171103440896) (hBl : B < 5183643171103440896) (h0 : ¬ (A = 0 ∧ B = 0)) : Fp (angT A B) 1 := by
  have key : ∀ X Y, X ≤ Y → 3936146074321813504 ≤ Y → Y < 5183643171103440896 → Fp (cop .quo .f64 (some X) (some Y)) 1 := by
    intro X Y h1 h2 h3
    obtain ⟨L, hL⟩ : ∃ L : Int, L = ((Y / 4503599627370496 : Nat) : Int) - 1023 := ⟨_, rfl⟩
    have l1 : -1000 ≤ L := by omega
    have l2 : L ≤ 1000 := by omega
    have e1 : (L + 1023).toNat = Y / 4503599627370496 := by omega
    have e2 : (L + 1 + 1023).toNat = Y / 4503599627370496 + 1 := by omega
    have hx : X % 9223372036854775808 ≤ (L + 1 + 1023).toNat * 4503599627370496 := by rw [e2]; omega
    have hX : Fp (some X) (L + 1) := ⟨X, rfl, by omega, Lb_rung (by omega) (by omega) (by omega) hx X rfl⟩
    have hy : Y % 9223372036854775808 ≤ (L + 1 + 1023).toNat * 4503599627370496 := by rw [e2]; omega
    have hY : Fp (some Y) (L + 1) := ⟨Y, rfl, by omega, Lb_rung (by omega) (by omega) (by omega) hy Y rfl⟩
    have hl : (L + 1023).toNat * 4503599627370496 ≤ Y := by rw [e1]; omega
    have hF : Fl .f64 (some Y) L := ⟨Y, rfl, Lo_rung (by omega) hl (by omega) Y rfl⟩
    exact (Fp.quo hX hF hY (inR (by omega) (by omega))).mono (by omega)
  unfold angT
  split
  · exact key B A (by omega) (by omega) hAl
  · exact key A B (by omega) (by omega) hBl

theorem angV_Fb {A B : Nat} (sx : Bool) (h : Fp (angT A B) 1) : Fb .f64 (ang2 sx (ang1 (decide (B < A)) (angA (angI (angT A B) 3)))) 42 :=
  (ang2_Fb (ang1_Fb (angA_Fb (angI_Fp h 3)) (by omega) (by omega)) (by omega) (by omega)).mono (by omega)

theorem eight_cn : cn .f64 4620693217682128896 = some 4620693217682128896 := by decide

/-! the program's angle -/
theorem ang_k (j kk : Nat) (hj : j < 8) (hk : kk = fi (15 - 2 * (j : Int))) : 1023 * 4503599627370496 ≤ kk ∧ kk < 9218868437227405312 ∧ cn .f64 kk = some kk ∧
    (FloatKind.f64.format.order kk 4607182418800017408 == some .gt || FloatKind.f64.format.order kk 4607182418800017408 == some .eq) = true ∧
    cop .sub .f64 (some kk) (some 4611686018427387904) = some (fi (15 - 2 * ((j + 1 : Nat) : Int))) ∧
    kLeft (.float .f64 (fi (15 - 2 * ((j + 1 : Nat) : Int)))) < kLeft (.float .f64 (fi (15 - 2 * (j : Int)))) := by
  subst hk
  exact ang_tab ⟨j, hj⟩
theorem ang3_Fb {a : Option Nat} {b : Bool} {T : Int} (h : Fb .f64 a T) (hw : ∀ x, a = some x → x < 18446744073709551616) : Fb .f64 (ang3 b a) T := by
  unfold ang3; split
  · refine h.neg fun x hx => ?_
    obtain ⟨y, hy, hd⟩ := h
    rw [hx] at hy; cases hy
    exact ⟨hw x hx, hd.cn⟩
  · exact h
theorem cop_lt {op : BinOp} {c d : Option Nat} {x : Nat} (h : cop op .f64 c d = some x) : x < 18446744073709551616 := by
  cases c with
  | none => cases h
  | some a =>
    cases d with
    | none => cases h
    | some b =>
      have := wf_sign (floatBits_wf (op := op) (k := .f64) h)
      rw [f64_sign] at this
      omega
theorem ang_lt {sx b : Bool} {t : Option Nat} (x : Nat) (h : ang2 sx (ang1 b (angA t)) = some x) : x < 18446744073709551616 := by
  unfold ang2 at h
  split at h
  · exact cop_lt h
  · unfold ang1 at h
    split at h
    · exact cop_lt h
    · exact cop_lt (show cop .quo .f64 _ _ = some x from h)
theorem ang_fits {A B : Nat} (sx sy : Bool) (h : Fp (angT A B) 1) : Fits .f64 .f32 (angV A B sx sy) :=
  (ang3_Fb (angV_Fb sx h) (fun x hx => ang_lt x hx)).Lb.fits (by omega)

set_option maxHeartbeats 2000000 in
theorem impl_AngleTurns (y x Y X A B : Nat) (hf : allFin [x, y] = true) (cy : cn .f32 y = some y) (cx : cn .f32 x = some x) (eY : cconv .f32 .f64 (some y) = some Y) (eX : cconv .f32 .f64 (some x) = some X)
    (hY : Y < 18446744073709551616) (hX : X < 18446744073709551616) (hA : A = Y % 9223372036854775808) (hB : B = X % 9223372036854775808) (hAl : A < 9218868437227405312) (hBl : B < 9218868437227405312) (hT : Fp (angT A B) 1)
    (sx sy zx zy : Bool) (hsx : (FloatKind.f32.format.order x 0 == some .lt) = sx) (hsy : (FloatKind.f32.format.order y 0 == some .lt) = sy) (hzx : (FloatKind.f32.format.order x 0 == some .eq) = zx) (hzy : (FloatKind.f32.format.order y 0 == some .eq) = zy) (hz : (zx && zy) = false) (w : World) :
    Calls Tryz.prog 16 #[.float .f32 y, .float .f32 x] w (fun e w' => ∃ r, e = .returned (.float .f32 r) ∧ FE .f32 r (cconv .f64 .f32 (angV A B sx sy)) ∧ Below w.heap.size w w') := by
  have hov : (FloatKind.f64.format.order A B == some .gt) = decide (B < A) := by
    rw [order_pos hAl hBl]
    rcases Nat.lt_trichotomy A B with q | q | q
    · rw [Nat.compare_eq_lt.2 q]; simp; omega
    · rw [Nat.compare_eq_eq.2 q]; simp; omega
    · rw [Nat.compare_eq_gt.2 q]; simp; omega
  obtain ⟨ov, hv⟩ : ∃ ov, ov = decide (B < A) := ⟨_, rfl⟩
  rw [← hv] at hov
  have HV := Lib.hid hv
  have HC := Lib.hid (And.intro (cn64 hAl) (cn64 hBl))
  have HA := Lib.hid (And.intro hA.symm hB.symm)
  have HF := Lib.hid hf
  have HTp := Lib.hid hT
  have CY := Lib.hid (And.intro cy eY)
  have CX := Lib.hid (And.intro cx eX)
  clear hv hA hB hf hT cy cx eY eX
  cases zx with
  | true =>
    have hzy2 : zy = false := by simpa using hz
    subst hzy2
    clear hz
    go_enter Tryz.func16, Tryz.ntmps16
    go_wp2_with (first | (go_at_call 37; refine (impl_areFinite (some ⟨w.heap.size, 0, none⟩) 2 [x, y] _ (Fs_two w x y _) (by simp)).mono ?_; rw [HF.out]; rintro _ _ ⟨nd, rfl, rfl⟩) | ((with_reducible refine up_up _ _ ?_); intro r nd hr))
    obtain rfl := FE_num hr CY.out.1 CY.out.2
    refine (math_Abs _ hY _).mono ?_
    rw [HA.out.1]
    rintro _ _ ⟨nd, rfl, rfl⟩
    clear hr
    go_wp2_with ((with_reducible refine up_up _ _ ?_); intro r nd hr)
    obtain rfl := FE_num hr CX.out.1 CX.out.2
    refine (math_Abs _ hX _).mono ?_
    rw [HA.out.2]
    rintro _ _ ⟨nd, rfl, rfl⟩
    clear hr
    go_upto_if 38 with (((first | with_reducible refine up_add _ _ _ _ _ ?_ | with_reducible refine up_sub _ _ _ _ _ ?_ | with_reducible refine up_mul _ _ _ _ _ ?_ | with_reducible refine up_quo _ _ _ _ _ ?_)); intro r nd hr)
    have HQ := Lib.hid (show FE .f64 r (cop .quo .f64 (some A) (some B)) from hr.cast (by rw [HC.out.1, HC.out.2]))
    clear hr
    obtain ⟨w1, hw1⟩ : ∃ w1 : World, w1 = w.alloc (.cells #[.float .f32 x, .float .f32 y] 24) := ⟨_, rfl⟩
    have HB1 := Lib.hid (show Below w.heap.size w w1 by rw [hw1]; exact (Below.refl _ _).alloc (Nat.le_refl _) _)
    rw [← hw1]
    clear hw1
    clear CY CX HA hY hX
    go_cut [7] (fun s8 wx => ∃ (t nq : Nat), s8 = .float .f64 t ∧ Hid (FE .f64 t (angT A B)) ∧ wx = w1.drewN nq)
    case first =>
      clear hov
      cases ov with
      | true =>
        go_wp2_with (((first | with_reducible refine up_add _ _ _ _ _ ?_ | with_reducible refine up_sub _ _ _ _ _ ?_ | with_reducible refine up_mul _ _ _ _ _ ?_ | with_reducible refine up_quo _ _ _ _ _ ?_)); intro r nd hr)
        go_meet
        case rel =>
        refine ⟨_, _, rfl, hr.cast ?_, rfl⟩
        rw [HC.out.1, HC.out.2]; unfold angT; rw [if_pos (of_decide_eq_true HV.out.symm)]
      | false =>
        go_wp2_with (((first | with_reducible refine up_add _ _ _ _ _ ?_ | with_reducible refine up_sub _ _ _ _ _ ?_ | with_reducible refine up_mul _ _ _ _ _ ?_ | with_reducible refine up_quo _ _ _ _ _ ?_)); intro r nd hr)
        go_meet
        case rel =>
        refine ⟨_, _, rfl, HQ.out.cast ?_, rfl⟩
        unfold angT; rw [if_neg (of_decide_eq_false HV.out.symm)]
    case rest =>
      obtain ⟨t0, nq0, rfl, ht, rfl⟩ := hcut
      clear HQ
      go_wp2
      go_loopw [7, 42] (fun t k wr => ∃ (j tq nq : Nat), j ≤ 3 ∧ k = .int .i64 j ∧ t = .float .f64 tq ∧ Hid (FE .f64 tq (angI (angT A B) j)) ∧ wr = w1.drewN nq) (fun _ k _ => 3 - (intOf k).toNat)
      case atStart => exact ⟨0, _, _, by omega, rfl, rfl, ht, rfl⟩
      case round =>
        obtain ⟨j, tq, nq, hj, rfl, rfl, hk, rfl⟩ := hrel
        by_cases hlt : j < 3
        · go_wp2_with (first | (((first | with_reducible refine up_add _ _ _ _ _ ?_ | with_reducible refine up_sub _ _ _ _ _ ?_ | with_reducible refine up_mul _ _ _ _ _ ?_ | with_reducible refine up_quo _ _ _ _ _ ?_)); intro r nd hr) | (go_at_call 39; refine (math_Sqrt _ _).mono ?_; rintro _ _ ⟨r, nd, rfl, hr, rfl⟩))
          go_roundw
          case rel =>
            refine ⟨j + 1, _, _, by omega, by go_num, rfl, ?_, rfl⟩
            refine hr.cast ?_
            go_tidy
            have hk1 := hk.out.out
            clear hk HV HC ht HF HTp HB1
            simp_all [FE, angI, angR, one_cn]
          case measure => simp [intOf]; omega
        · obtain rfl : j = 3 := by omega
          go_upto_region 14 with (((first | with_reducible refine up_add _ _ _ _ _ ?_ | with_reducible refine up_sub _ _ _ _ _ ?_ | with_reducible refine up_mul _ _ _ _ _ ?_ | with_reducible refine up_quo _ _ _ _ _ ?_)); intro r nd hr)
          have HT := Lib.hid hk.out
          have HU := Lib.hid (show FE .f64 r (cop .mul .f64 (angI (angT A B) 3) (angI (angT A B) 3)) from hr.cast (by rw [hk.out.out]))
          clear hr hk hlt hj ht
          go_wp2
          go_loopw [9, 10] (fun q k wr => ∃ (j rq nq kk : Nat), j ≤ 8 ∧ k = .float .f64 kk ∧ q = .float .f64 rq ∧ Hid (kk = fi (15 - 2 * (j : Int)) ∧ FE .f64 rq (angP (cop .mul .f64 (angI (angT A B) 3) (angI (angT A B) 3)) j)) ∧ wr = w1.drewN nq) (fun _ k _ => kLeft k)
          case atStart => exact ⟨0, _, _, _, by omega, rfl, rfl, ⟨by decide, cn_zero64, by decide⟩, rfl⟩
          case round =>
            obtain ⟨j, rq, nq, kk, hj, rfl, rfl, hk, rfl⟩ := hrel
            by_cases hj2 : j < 8
            · obtain ⟨a1, a2, a3, a4, a5, a6⟩ := ang_k j kk hj2 hk.out.1
              have hm4 : ∀ t w, (binOp .sub t (.float .f64 kk) (.float .f64 4611686018427387904)).run Tryz.prog w = .ok (.float .f64 (fi (15 - 2 * ((j + 1 : Nat) : Int)))) w := fun t w => run_float_arith w .sub t .f64 _ _ _ a5
              obtain ⟨k4, hk4⟩ : ∃ k4, k4 = fi (15 - 2 * ((j + 1 : Nat) : Int)) := ⟨_, rfl⟩
              rw [← hk4] at hm4
              have HK := Lib.hid (And.intro hk4 (And.intro a3 a6))
              clear hk4 a1 a2 a3 a5 a6
              go_wp2_with (((first | with_reducible refine up_add _ _ _ _ _ ?_ | with_reducible refine up_sub _ _ _ _ _ ?_ | with_reducible refine up_mul _ _ _ _ _ ?_ | with_reducible refine up_quo _ _ _ _ _ ?_)); intro r nd hr)
              go_roundw
              case rel =>
                refine ⟨j + 1, _, _, _, by omega, rfl, rfl, ⟨HK.out.1, ?_⟩, rfl⟩
                refine hr.cast ?_
                go_tidy
                have hk1 := hk.out.2.out
                have hk0 := hk.out.1
                have K1 := HK.out.2.1
                have hu1 := HU.out.out
                clear hk HK HV HC HT HU HF HTp HB1
                subst hk0
                simp_all [FE, angP, one_cn]
              case measure =>
                have h1 := HK.out.2.2
                have h2 := HK.out.1
                have h3 := hk.out.1
                simp only [kLeft, h2, h3]; exact h1
            · obtain rfl : j = 8 := by omega
              have hend : (FloatKind.f64.format.order kk 4607182418800017408 == some .gt || FloatKind.f64.format.order kk 4607182418800017408 == some .eq) = false := by rw [hk.out.1]; exact ang_end
              have HP := Lib.hid hk.out.2
              clear hk hj hj2
              go_upto_if 73 with (((first | with_reducible refine up_add _ _ _ _ _ ?_ | with_reducible refine up_sub _ _ _ _ _ ?_ | with_reducible refine up_mul _ _ _ _ _ ?_ | with_reducible refine up_quo _ _ _ _ _ ?_)); intro r nd hr)
              have HW := Lib.hid (show FE .f64 r (angA (angI (angT A B) 3)) by
                refine hr.cast ?_
                go_tidy
                have t1 := HT.out.out
                have u1 := HU.out.out
                have p1 := HP.out.out
                clear HT HU HP HV HC HF HTp HB1
                simp_all [FE, angA, eight_cn, twopi_cn])
              clear hr
              go_cut [11] (fun s13 wx => ∃ (v nq : Nat), s13 = .float .f64 v ∧ Hid (FE .f64 v (ang1 (decide (B < A)) (angA (angI (angT A B) 3)))) ∧ wx = w1.drewN nq)
              case first =>
                clear hov
                cases ov with
                | true =>
                  go_wp2_with (((first | with_reducible refine up_add _ _ _ _ _ ?_ | with_reducible refine up_sub _ _ _ _ _ ?_ | with_reducible refine up_mul _ _ _ _ _ ?_ | with_reducible refine up_quo _ _ _ _ _ ?_)); intro r nd hr)
                  go_meet
                  case rel =>
                  refine ⟨_, _, rfl, hr.cast ?_, rfl⟩
                  rw [← HV.out, HW.out.out, quarter_cn]; rfl
                | false =>
                  go_wp2_with (((first | with_reducible refine up_add _ _ _ _ _ ?_ | with_reducible refine up_sub _ _ _ _ _ ?_ | with_reducible refine up_mul _ _ _ _ _ ?_ | with_reducible refine up_quo _ _ _ _ _ ?_)); intro r nd hr)
                  go_meet
                  case rel =>
                  refine ⟨_, _, rfl, ?_, rfl⟩
                  show FE .f64 _ _
                  rw [← HV.out]
                  exact HW.out
              case rest =>
                obtain ⟨v1, nq1, rfl, hv1, rfl⟩ := hcut
                clear HW HT HU HP hend
                go_upto_if 77 with (((first | with_reducible refine up_add _ _ _ _ _ ?_ | with_reducible refine up_sub _ _ _ _ _ ?_ | with_reducible refine up_mul _ _ _ _ _ ?_ | with_reducible refine up_quo _ _ _ _ _ ?_)); intro r nd hr)
                go_cut [11] (fun s13 wx => ∃ (v nq : Nat), s13 = .float .f64 v ∧ Hid (FE .f64 v (ang2 sx (ang1 (decide (B < A)) (angA (angI (angT A B) 3))))) ∧ wx = w1.drewN nq)
                case first =>
                  clear hsx hzx
                  cases sx with
                  | true =>
                    go_wp2_with (((first | with_reducible refine up_add _ _ _ _ _ ?_ | with_reducible refine up_sub _ _ _ _ _ ?_ | with_reducible refine up_mul _ _ _ _ _ ?_ | with_reducible refine up_quo _ _ _ _ _ ?_)); intro r nd hr)
                    go_meet
                    case rel =>
                    refine ⟨_, _, rfl, hr.cast ?_, rfl⟩
                    rw [hv1.out.out, half_cn]; rfl
                  | false =>
                    go_wp2_with (((first | with_reducible refine up_add _ _ _ _ _ ?_ | with_reducible refine up_sub _ _ _ _ _ ?_ | with_reducible refine up_mul _ _ _ _ _ ?_ | with_reducible refine up_quo _ _ _ _ _ ?_)); intro r nd hr)
                    go_meet
                    case rel =>
                    exact ⟨_, _, rfl, hv1, rfl⟩
                case rest =>
                  obtain ⟨v2, nq2, rfl, hv2, rfl⟩ := hcut
                  have hneg := run_neg
                  have HFit := Lib.hid (ang_fits sx sy HTp.out)
                  go_upto_if 81 with (((first | with_reducible refine up_add _ _ _ _ _ ?_ | with_reducible refine up_sub _ _ _ _ _ ?_ | with_reducible refine up_mul _ _ _ _ _ ?_ | with_reducible refine up_quo _ _ _ _ _ ?_)); intro r nd hr)
                  clear hsy hzy
                  cases sy with
                  | true =>
                    have hfit := Lib.hid (show Fits .f64 .f32 (cn .f64 (Op.negFloat .f64 v2)) by rw [(FE_neg hv2.out).out]; exact HFit.out)
                    go_wp2_with ((with_reducible refine up_down _ _ hfit.out ?_); intro r nd hr)
                    go_ret
                    exact ⟨_, rfl, hr.cast (by rw [(FE_neg hv2.out).out]; rfl), below_drewN' HB1.out _⟩
                  | false =>
                    have hfit := Lib.hid (show Fits .f64 .f32 (cn .f64 v2) by rw [hv2.out.out]; exact HFit.out)
                    go_wp2_with ((with_reducible refine up_down _ _ hfit.out ?_); intro r nd hr)
                    go_ret
                    exact ⟨_, rfl, hr.cast (by rw [hv2.out.out]; rfl), below_drewN' HB1.out _⟩
  | false =>
    clear hz hzy
    have hzy : True := trivial
    go_enter Tryz.func16, Tryz.ntmps16
    go_wp2_with (first | (go_at_call 37; refine (impl_areFinite (some ⟨w.heap.size, 0, none⟩) 2 [x, y] _ (Fs_two w x y _) (by simp)).mono ?_; rw [HF.out]; rintro _ _ ⟨nd, rfl, rfl⟩) | ((with_reducible refine up_up _ _ ?_); intro r nd hr))
    obtain rfl := FE_num hr CY.out.1 CY.out.2
    refine (math_Abs _ hY _).mono ?_
    rw [HA.out.1]
    rintro _ _ ⟨nd, rfl, rfl⟩
    clear hr
    go_wp2_with ((with_reducible refine up_up _ _ ?_); intro r nd hr)
    obtain rfl := FE_num hr CX.out.1 CX.out.2
    refine (math_Abs _ hX _).mono ?_
    rw [HA.out.2]
    rintro _ _ ⟨nd, rfl, rfl⟩
    clear hr
    go_upto_if 38 with (((first | with_reducible refine up_add _ _ _ _ _ ?_ | with_reducible refine up_sub _ _ _ _ _ ?_ | with_reducible refine up_mul _ _ _ _ _ ?_ | with_reducible refine up_quo _ _ _ _ _ ?_)); intro r nd hr)
    have HQ := Lib.hid (show FE .f64 r (cop .quo .f64 (some A) (some B)) from hr.cast (by rw [HC.out.1, HC.out.2]))
    clear hr
    obtain ⟨w1, hw1⟩ : ∃ w1 : World, w1 = w.alloc (.cells #[.float .f32 x, .float .f32 y] 24) := ⟨_, rfl⟩
    have HB1 := Lib.hid (show Below w.heap.size w w1 by rw [hw1]; exact (Below.refl _ _).alloc (Nat.le_refl _) _)
    rw [← hw1]
    clear hw1
    clear CY CX HA hY hX
    go_cut [7] (fun s8 wx => ∃ (t nq : Nat), s8 = .float .f64 t ∧ Hid (FE .f64 t (angT A B)) ∧ wx = w1.drewN nq)
    case first =>
      clear hov
      cases ov with
      | true =>
        go_wp2_with (((first | with_reducible refine up_add _ _ _ _ _ ?_ | with_reducible refine up_sub _ _ _ _ _ ?_ | with_reducible refine up_mul _ _ _ _ _ ?_ | with_reducible refine up_quo _ _ _ _ _ ?_)); intro r nd hr)
        go_meet
        case rel =>
        refine ⟨_, _, rfl, hr.cast ?_, rfl⟩
        rw [HC.out.1, HC.out.2]; unfold angT; rw [if_pos (of_decide_eq_true HV.out.symm)]
      | false =>
        go_wp2_with (((first | with_reducible refine up_add _ _ _ _ _ ?_ | with_reducible refine up_sub _ _ _ _ _ ?_ | with_reducible refine up_mul _ _ _ _ _ ?_ | with_reducible refine up_quo _ _ _ _ _ ?_)); intro r nd hr)
        go_meet
        case rel =>
        refine ⟨_, _, rfl, HQ.out.cast ?_, rfl⟩
        unfold angT; rw [if_neg (of_decide_eq_false HV.out.symm)]
    case rest =>
      obtain ⟨t0, nq0, rfl, ht, rfl⟩ := hcut
      clear HQ
      go_wp2
      go_loopw [7, 42] (fun t k wr => ∃ (j tq nq : Nat), j ≤ 3 ∧ k = .int .i64 j ∧ t = .float .f64 tq ∧ Hid (FE .f64 tq (angI (angT A B) j)) ∧ wr = w1.drewN nq) (fun _ k _ => 3 - (intOf k).toNat)
      case atStart => exact ⟨0, _, _, by omega, rfl, rfl, ht, rfl⟩
      case round =>
        obtain ⟨j, tq, nq, hj, rfl, rfl, hk, rfl⟩ := hrel
        by_cases hlt : j < 3
        · go_wp2_with (first | (((first | with_reducible refine up_add _ _ _ _ _ ?_ | with_reducible refine up_sub _ _ _ _ _ ?_ | with_reducible refine up_mul _ _ _ _ _ ?_ | with_reducible refine up_quo _ _ _ _ _ ?_)); intro r nd hr) | (go_at_call 39; refine (math_Sqrt _ _).mono ?_; rintro _ _ ⟨r, nd, rfl, hr, rfl⟩))
          go_roundw
          case rel =>
            refine ⟨j + 1, _, _, by omega, by go_num, rfl, ?_, rfl⟩
            refine hr.cast ?_
            go_tidy
            have hk1 := hk.out.out
            clear hk HV HC ht HF HTp HB1
            simp_all [FE, angI, angR, one_cn]
          case measure => simp [intOf]; omega
        · obtain rfl : j = 3 := by omega
          go_upto_region 14 with (((first | with_reducible refine up_add _ _ _ _ _ ?_ | with_reducible refine up_sub _ _ _ _ _ ?_ | with_reducible refine up_mul _ _ _ _ _ ?_ | with_reducible refine up_quo _ _ _ _ _ ?_)); intro r nd hr)
          have HT := Lib.hid hk.out
          have HU := Lib.hid (show FE .f64 r (cop .mul .f64 (angI (angT A B) 3) (angI (angT A B) 3)) from hr.cast (by rw [hk.out.out]))
          clear hr hk hlt hj ht
          go_wp2
          go_loopw [9, 10] (fun q k wr => ∃ (j rq nq kk : Nat), j ≤ 8 ∧ k = .float .f64 kk ∧ q = .float .f64 rq ∧ Hid (kk = fi (15 - 2 * (j : Int)) ∧ FE .f64 rq (angP (cop .mul .f64 (angI (angT A B) 3) (angI (angT A B) 3)) j)) ∧ wr = w1.drewN nq) (fun _ k _ => kLeft k)
          case atStart => exact ⟨0, _, _, _, by omega, rfl, rfl, ⟨by decide, cn_zero64, by decide⟩, rfl⟩
          case round =>
            obtain ⟨j, rq, nq, kk, hj, rfl, rfl, hk, rfl⟩ := hrel
            by_cases hj2 : j < 8
            · obtain ⟨a1, a2, a3, a4, a5, a6⟩ := ang_k j kk hj2 hk.out.1
              have hm4 : ∀ t w, (binOp .sub t (.float .f64 kk) (.float .f64 4611686018427387904)).run Tryz.prog w = .ok (.float .f64 (fi (15 - 2 * ((j + 1 : Nat) : Int)))) w := fun t w => run_float_arith w .sub t .f64 _ _ _ a5
              obtain ⟨k4, hk4⟩ : ∃ k4, k4 = fi (15 - 2 * ((j + 1 : Nat) : Int)) := ⟨_, rfl⟩
              rw [← hk4] at hm4
              have HK := Lib.hid (And.intro hk4 (And.intro a3 a6))
              clear hk4 a1 a2 a3 a5 a6
              go_wp2_with (((first | with_reducible refine up_add _ _ _ _ _ ?_ | with_reducible refine up_sub _ _ _ _ _ ?_ | with_reducible refine up_mul _ _ _ _ _ ?_ | with_reducible refine up_quo _ _ _ _ _ ?_)); intro r nd hr)
              go_roundw
              case rel =>
                refine ⟨j + 1, _, _, _, by omega, rfl, rfl, ⟨HK.out.1, ?_⟩, rfl⟩
                refine hr.cast ?_
                go_tidy
                have hk1 := hk.out.2.out
                have hk0 := hk.out.1
                have K1 := HK.out.2.1
                have hu1 := HU.out.out
                clear hk HK HV HC HT HU HF HTp HB1
                subst hk0
                simp_all [FE, angP, one_cn]
              case measure =>
                have h1 := HK.out.2.2
                have h2 := HK.out.1
                have h3 := hk.out.1
                simp only [kLeft, h2, h3]; exact h1
            · obtain rfl : j = 8 := by omega
              have hend : (FloatKind.f64.format.order kk 4607182418800017408 == some .gt || FloatKind.f64.format.order kk 4607182418800017408 == some .eq) = false := by rw [hk.out.1]; exact ang_end
              have HP := Lib.hid hk.out.2
              clear hk hj hj2
              go_upto_if 73 with (((first | with_reducible refine up_add _ _ _ _ _ ?_ | with_reducible refine up_sub _ _ _ _ _ ?_ | with_reducible refine up_mul _ _ _ _ _ ?_ | with_reducible refine up_quo _ _ _ _ _ ?_)); intro r nd hr)
              have HW := Lib.hid (show FE .f64 r (angA (angI (angT A B) 3)) by
                refine hr.cast ?_
                go_tidy
                have t1 := HT.out.out
                have u1 := HU.out.out
                have p1 := HP.out.out
                clear HT HU HP HV HC HF HTp HB1
                simp_all [FE, angA, eight_cn, twopi_cn])
              clear hr
              go_cut [11] (fun s13 wx => ∃ (v nq : Nat), s13 = .float .f64 v ∧ Hid (FE .f64 v (ang1 (decide (B < A)) (angA (angI (angT A B) 3)))) ∧ wx = w1.drewN nq)
              case first =>
                clear hov
                cases ov with
                | true =>
                  go_wp2_with (((first | with_reducible refine up_add _ _ _ _ _ ?_ | with_reducible refine up_sub _ _ _ _ _ ?_ | with_reducible refine up_mul _ _ _ _ _ ?_ | with_reducible refine up_quo _ _ _ _ _ ?_)); intro r nd hr)
                  go_meet
                  case rel =>
                  refine ⟨_, _, rfl, hr.cast ?_, rfl⟩
                  rw [← HV.out, HW.out.out, quarter_cn]; rfl
                | false =>
                  go_wp2_with (((first | with_reducible refine up_add _ _ _ _ _ ?_ | with_reducible refine up_sub _ _ _ _ _ ?_ | with_reducible refine up_mul _ _ _ _ _ ?_ | with_reducible refine up_quo _ _ _ _ _ ?_)); intro r nd hr)
                  go_meet
                  case rel =>
                  refine ⟨_, _, rfl, ?_, rfl⟩
                  show FE .f64 _ _
                  rw [← HV.out]
                  exact HW.out
              case rest =>
                obtain ⟨v1, nq1, rfl, hv1, rfl⟩ := hcut
                clear HW HT HU HP hend
                go_upto_if 77 with (((first | with_reducible refine up_add _ _ _ _ _ ?_ | with_reducible refine up_sub _ _ _ _ _ ?_ | with_reducible refine up_mul _ _ _ _ _ ?_ | with_reducible refine up_quo _ _ _ _ _ ?_)); intro r nd hr)
                go_cut [11] (fun s13 wx => ∃ (v nq : Nat), s13 = .float .f64 v ∧ Hid (FE .f64 v (ang2 sx (ang1 (decide (B < A)) (angA (angI (angT A B) 3))))) ∧ wx = w1.drewN nq)
                case first =>
                  clear hsx hzx
                  cases sx with
                  | true =>
                    go_wp2_with (((first | with_reducible refine up_add _ _ _ _ _ ?_ | with_reducible refine up_sub _ _ _ _ _ ?_ | with_reducible refine up_mul _ _ _ _ _ ?_ | with_reducible refine up_quo _ _ _ _ _ ?_)); intro r nd hr)
                    go_meet
                    case rel =>
                    refine ⟨_, _, rfl, hr.cast ?_, rfl⟩
                    rw [hv1.out.out, half_cn]; rfl
                  | false =>
                    go_wp2_with (((first | with_reducible refine up_add _ _ _ _ _ ?_ | with_reducible refine up_sub _ _ _ _ _ ?_ | with_reducible refine up_mul _ _ _ _ _ ?_ | with_reducible refine up_quo _ _ _ _ _ ?_)); intro r nd hr)
                    go_meet
                    case rel =>
                    exact ⟨_, _, rfl, hv1, rfl⟩
                case rest =>
                  obtain ⟨v2, nq2, rfl, hv2, rfl⟩ := hcut
                  have hneg := run_neg
                  have HFit := Lib.hid (ang_fits sx sy HTp.out)
                  go_upto_if 81 with (((first | with_reducible refine up_add _ _ _ _ _ ?_ | with_reducible refine up_sub _ _ _ _ _ ?_ | with_reducible refine up_mul _ _ _ _ _ ?_ | with_reducible refine up_quo _ _ _ _ _ ?_)); intro r nd hr)
                  clear hsy hzy
                  cases sy with
                  | true =>
                    have hfit := Lib.hid (show Fits .f64 .f32 (cn .f64 (Op.negFloat .f64 v2)) by rw [(FE_neg hv2.out).out]; exact HFit.out)
                    go_wp2_with ((with_reducible refine up_down _ _ hfit.out ?_); intro r nd hr)
                    go_ret
                    exact ⟨_, rfl, hr.cast (by rw [(FE_neg hv2.out).out]; rfl), below_drewN' HB1.out _⟩
                  | false =>
                    have hfit := Lib.hid (show Fits .f64 .f32 (cn .f64 v2) by rw [hv2.out.out]; exact HFit.out)
                    go_wp2_with ((with_reducible refine up_down _ _ hfit.out ?_); intro r nd hr)
                    go_ret
                    exact ⟨_, rfl, hr.cast (by rw [hv2.out.out]; rfl), below_drewN' HB1.out _⟩

/-! every two numbers -/
/-- a call that may lay a block and hands back a 32-bit number -/
def RetFw (c : Option Nat) (w : World) (e : Ending) (w' : World) : Prop := ∃ r, e = .returned (.float .f32 r) ∧ FE .f32 r c ∧ Below w.heap.size w w'

set_option maxHeartbeats 1000000 in
theorem impl_AngleTurns_bad (y x : Nat) (hf : allFin [x, y] = false) (w : World) :
    Calls Tryz.prog 16 #[.float .f32 y, .float .f32 x] w (RetFw none w) := by
  have HF := Lib.hid hf
  have HM := Lib.hid fits_nan
  clear hf
  go_enter Tryz.func16, Tryz.ntmps16
  go_wp2_with (first | (go_at_call 37; refine (impl_areFinite (some ⟨w.heap.size, 0, none⟩) 2 [x, y] _ (Fs_two w x y _) (by simp)).mono ?_; rw [HF.out]; rintro _ _ ⟨nd, rfl, rfl⟩) | (go_at_call 38; refine (math_NaN _).mono ?_; rintro _ _ ⟨nd, rfl, rfl⟩) | ((with_reducible refine up_down _ _ HM.out ?_); intro r nd hr))
  go_ret
  exact ⟨_, rfl, hr.cast (by rw [nan_cn]; rfl), below_drewN' ((Below.refl _ _).alloc (Nat.le_refl _) _) _⟩

set_option maxHeartbeats 1000000 in
theorem impl_AngleTurns_zero (y x : Nat) (hf : allFin [x, y] = true) (zx : (FloatKind.f32.format.order x 0 == some .eq) = true) (zy : (FloatKind.f32.format.order y 0 == some .eq) = true) (w : World) :
    Calls Tryz.prog 16 #[.float .f32 y, .float .f32 x] w (RetFw (some 0) w) := by
  have HF := Lib.hid hf
  clear hf
  go_enter Tryz.func16, Tryz.ntmps16
  go_wp2_with (first | (go_at_call 37; refine (impl_areFinite (some ⟨w.heap.size, 0, none⟩) 2 [x, y] _ (Fs_two w x y _) (by simp)).mono ?_; rw [HF.out]; rintro _ _ ⟨nd, rfl, rfl⟩))
  go_ret
  exact ⟨_, rfl, ⟨cn_zero32, by decide⟩, below_drewN' ((Below.refl _ _).alloc (Nat.le_refl _) _) _⟩

/-- a finite 32-bit number, told without its sign -/
theorem abs_range {x X : Nat} (hx : x < 4294967296) (hf : x % 2147483648 < 2139095040) (c : cn .f32 x = some x) (e : cconv .f32 .f64 (some x) = some X) :
    X < 18446744073709551616 ∧ X % 9223372036854775808 < 5183643171103440896 ∧ (X % 9223372036854775808 = 0 ↔ x % 2147483648 = 0) ∧ (X % 9223372036854775808 = 0 ∨ 3936146074321813504 ≤ X % 9223372036854775808) := by
  obtain ⟨Y, eY, lY, cY, sY, f, _⟩ := up_spec x hx c
  rw [e] at eY; cases eY
  have fx := (f hf).2
  by_cases hz : x % 2147483648 = 0
  · rw [hz, rval_zero _ (by omega), Nat.zero_mul] at fx
    have : X % 9223372036854775808 = 0 := by
      rcases Nat.eq_zero_or_pos (X % 9223372036854775808) with q | q
      · exact q
      · have := rval_lt 4503599627370496 (by omega) q
        rw [fx, rval_zero _ (by omega)] at this
        omega
    exact ⟨lY, by omega, by omega, .inl this⟩
  · obtain ⟨Z, eZ, z1, z2, _⟩ := up_range (x := x % 2147483648) (by omega) hf
    have cz : cn .f32 (x % 2147483648) = some (x % 2147483648) := cn_of_le _ _ (by rw [f32_sign, f32_inf, Nat.mod_mod]; omega)
    obtain ⟨Z2, eZ2, lZ, cZ, sZ, g, _⟩ := up_spec (x % 2147483648) (by omega) cz
    rw [eZ] at eZ2; cases eZ2
    have gz := (g (by rw [Nat.mod_mod]; exact hf)).2
    rw [Nat.mod_mod] at gz
    have hZ : Z % 9223372036854775808 = Z := Nat.mod_eq_of_lt (by omega)
    rw [hZ] at gz
    rw [← gz] at fx
    have : X % 9223372036854775808 = Z := by
      rcases Nat.lt_trichotomy (X % 9223372036854775808) Z with q | q | q
      · have := rval_lt 4503599627370496 (by omega) q; omega
      · exact q
      · have := rval_lt 4503599627370496 (by omega) q; omega
    exact ⟨lY, by omega, by omega, .inr (by omega)⟩

end Go.Proofs.YticeapacffgikaaGreatDoor
