/- Plain laws of floating-point numbers up to which not-a-number they are. No condition. -/
import Derived.Laws.ComplexArith
import Derived.Deep.Draws
namespace Go.Proofs.YticeapacffgikaaGreatDoor

/-- What a float is, all not-a-numbers being one. -/
def cn (k : FloatKind) (x : Nat) : Option Nat := if (k.decode x).isNaN then none else some x

/-- 'r' is, up to which not-a-number it is, 'c'. -/
def FE (k : FloatKind) (r : Nat) (c : Option Nat) : Prop := cn k r = c ∧ r < 2 * k.format.signWeight
theorem FE.out {k : FloatKind} {r : Nat} {c : Option Nat} (h : FE k r c) : cn k r = c := h.1
theorem FE.lt {k : FloatKind} {r : Nat} {c : Option Nat} (h : FE k r c) : r < 2 * k.format.signWeight := h.2
theorem FE.cast {k : FloatKind} {r : Nat} {c d : Option Nat} (h : FE k r c) (e : c = d) : FE k r d := e ▸ h
theorem wf_sign {k : FloatKind} {r : Nat} (h : (Lit.float k r).wf = true) : r < 2 * k.format.signWeight := by
  have e : (2 : Nat) ^ k.format.width = 2 * k.format.signWeight := by cases k <;> rfl
  cases k
  · have : r < 2 ^ 32 := by simpa [Lit.wf] using h
    rw [← e]; exact this
  · have : r < 2 ^ 64 := by simpa [Lit.wf] using h
    rw [← e]; exact this
theorem encode_sign (k : FloatKind) (d : Ieee.Datum) : k.encode d < 2 * k.format.signWeight := wf_sign (encode_wf k d)

def cop (op : BinOp) (k : FloatKind) : Option Nat → Option Nat → Option Nat
  | some x, some y => floatBits op k x y
  | _, _ => none

theorem fmt_small (k : FloatKind) : k.format.signWeight = (match k with | .f32 => 2 ^ 31 | .f64 => 2 ^ 63) := by cases k <;> rfl

theorem read_word (f : Ieee.Format) (neg : Bool) {r : Nat} (h : r ≤ f.infRung) : (f.read (f.word neg r)).isNaN = false := by
  have hs := f.infRung_lt
  have hp : 0 < f.signWeight := Nat.two_pow_pos _
  have hw : f.word neg r % f.signWeight = r := by
    unfold Ieee.Format.word
    split
    · rw [Nat.add_mod_left, Nat.mod_eq_of_lt (by omega)]
    · exact Nat.mod_eq_of_lt (by omega)
  unfold Ieee.Format.read
  simp only [hw]
  split
  · rfl
  · split
    · rfl
    · rw [if_pos (by omega)]; rfl

theorem nearest_not_nan (f : Ieee.Format) (neg : Bool) (m : Nat) (p : Int) : (f.read (f.nearest neg m p)).isNaN = false := by
  unfold Ieee.Format.nearest
  dsimp only
  split
  · exact read_word f neg (Nat.zero_le _)
  · exact read_word f neg (Nat.min_le_right ..)

theorem write_not_nan (f : Ieee.Format) {d : Ieee.Datum} (h : d.isNaN = false) : (f.read (f.write d)).isNaN = false := by
  cases d with
  | number s m e => exact nearest_not_nan f s m e
  | infinity s => exact read_word f s (Nat.le_refl _)
  | nan s t => cases h

open Ieee in
theorem sum_not_nan {x y d : Datum} (h : x.sum y = some d) : d.isNaN = false := by
  unfold Datum.sum at h
  split at h <;> first | (cases h; done) | skip
  · split at h <;> cases h; rfl
  all_goals (cases h; rfl)

open Ieee in
theorem product_not_nan {x y d : Datum} (h : x.product y = some d) : d.isNaN = false := by
  unfold Datum.product at h
  split at h <;> first | (cases h; done) | skip
  · cases h; rfl
  · split at h <;> cases h; rfl
  · split at h <;> cases h; rfl
  · cases h; rfl

open Ieee in
theorem quotient_not_nan {n : Nat} {x y d : Datum} (h : x.quotient n y = some d) : d.isNaN = false := by
  unfold Datum.quotient at h
  split at h <;> first | (cases h; done) | skip
  · cases h; rfl
  · cases h; rfl
  · split at h
    · split at h <;> cases h; rfl
    · cases h; rfl

theorem floatBits_cn {op : BinOp} {k : FloatKind} {x y r : Nat} (h : floatBits op k x y = some r) : cn k r = some r := by
  have hn : (k.decode r).isNaN = false := by
    unfold floatBits at h
    split at h
    · unfold Ieee.Format.add at h
      obtain ⟨d, hd, rfl⟩ := Option.map_eq_some_iff.1 h
      exact write_not_nan _ (sum_not_nan hd)
    · unfold Ieee.Format.sub at h
      obtain ⟨d, hd, rfl⟩ := Option.map_eq_some_iff.1 h
      exact write_not_nan _ (sum_not_nan hd)
    · unfold Ieee.Format.mul at h
      obtain ⟨d, hd, rfl⟩ := Option.map_eq_some_iff.1 h
      exact write_not_nan _ (product_not_nan hd)
    · unfold Ieee.Format.div at h
      obtain ⟨d, hd, rfl⟩ := Option.map_eq_some_iff.1 h
      exact write_not_nan _ (quotient_not_nan hd)
    · cases h
  simp [cn, hn]

open Ieee in
theorem floatBits_nan {op : BinOp} {k : FloatKind} {x y : Nat} (h : (k.decode x).isNaN = true ∨ (k.decode y).isNaN = true) : floatBits op k x y = none := by
  unfold floatBits
  unfold FloatKind.decode at h
  unfold Format.add Format.sub Format.mul Format.div
  generalize k.format.read x = a at h
  generalize k.format.read y = b at h
  cases a <;> cases b <;> simp [Datum.isNaN] at h <;> (split <;> simp [Datum.sum, Datum.product, Datum.quotient, Datum.opposite])

theorem floatBits_cop (op : BinOp) (k : FloatKind) (x y : Nat) : floatBits op k x y = cop op k (cn k x) (cn k y) := by
  unfold cn
  cases hx : (k.decode x).isNaN <;> cases hy : (k.decode y).isNaN <;> simp [cop, floatBits_nan, hx, hy]

theorem read_isNaN (k : FloatKind) (x : Nat) : (k.decode x).isNaN = decide (k.format.infRung < x % k.format.signWeight) := by
  have hb : k.format.binade ≤ k.format.infRung := by cases k <;> decide
  unfold FloatKind.decode Ieee.Format.read
  dsimp only
  split
  · simp [Ieee.Datum.isNaN]; omega
  · split
    · simp [Ieee.Datum.isNaN]; omega
    · split
      · simp [Ieee.Datum.isNaN]; omega
      · simp [Ieee.Datum.isNaN]; omega

theorem f32_sign : FloatKind.f32.format.signWeight = 2147483648 := by rfl
theorem f32_inf : FloatKind.f32.format.infRung = 2139095040 := by rfl
theorem f64_sign : FloatKind.f64.format.signWeight = 9223372036854775808 := by rfl
theorem f64_inf : FloatKind.f64.format.infRung = 9218868437227405312 := by rfl

theorem nan_form32 (t : Nat) : cn .f32 ((t % 2) * 2 ^ 31 + 0x7f800000 + 1 + (t / 2) % (2 ^ 23 - 1)) = none := by
  have h2 := Nat.mod_lt (t / 2) (show 0 < 2 ^ 23 - 1 by decide)
  generalize t / 2 % (2 ^ 23 - 1) = u at h2
  generalize t % 2 = b
  have e : (b * 2 ^ 31 + 0x7f800000 + 1 + u) % 2147483648 = 0x7f800001 + u := by
    have : b * 2 ^ 31 + 0x7f800000 + 1 + u = (0x7f800001 + u) + b * 2147483648 := by omega
    rw [this, Nat.add_mul_mod_self_right, Nat.mod_eq_of_lt (by omega)]
  simp only [cn, read_isNaN, f32_sign, f32_inf, e]
  rw [if_pos]
  simp only [decide_eq_true_eq]
  omega
theorem nan_form64 (t : Nat) : cn .f64 ((t % 2) * 2 ^ 63 + 0x7ff0000000000000 + 1 + (t / 2) % (2 ^ 52 - 1)) = none := by
  have h2 := Nat.mod_lt (t / 2) (show 0 < 2 ^ 52 - 1 by decide)
  generalize t / 2 % (2 ^ 52 - 1) = u at h2
  generalize t % 2 = b
  have e : (b * 2 ^ 63 + 0x7ff0000000000000 + 1 + u) % 9223372036854775808 = 0x7ff0000000000001 + u := by
    have : b * 2 ^ 63 + 0x7ff0000000000000 + 1 + u = (0x7ff0000000000001 + u) + b * 9223372036854775808 := by omega
    rw [this, Nat.add_mul_mod_self_right, Nat.mod_eq_of_lt (by omega)]
  simp only [cn, read_isNaN, f64_sign, f64_inf, e]
  rw [if_pos]
  simp only [decide_eq_true_eq]
  omega

theorem cut_nanBits (k : FloatKind) (x y t : Nat) : cn k (Question.cut (.nanBits k x y) t) = none := by
  cases k
  · exact nan_form32 t
  · exact nan_form64 t
theorem cut_nanConv (k : FloatKind) (x t : Nat) : cn k (Question.cut (.nanConv k x) t) = none := by
  cases k
  · exact nan_form32 t
  · exact nan_form64 t

theorem cut_nanBits_lt (k : FloatKind) (x y t : Nat) : Question.cut (.nanBits k x y) t < 2 * k.format.signWeight := by
  cases k
  · have h2 := Nat.mod_lt (t / 2) (show 0 < 2 ^ 23 - 1 by decide)
    have h3 := Nat.mod_lt t (show 0 < 2 by decide)
    rw [f32_sign]
    show (t % 2) * 2 ^ 31 + 0x7f800000 + 1 + (t / 2) % (2 ^ 23 - 1) < _
    omega
  · have h2 := Nat.mod_lt (t / 2) (show 0 < 2 ^ 52 - 1 by decide)
    have h3 := Nat.mod_lt t (show 0 < 2 by decide)
    rw [f64_sign]
    show (t % 2) * 2 ^ 63 + 0x7ff0000000000000 + 1 + (t / 2) % (2 ^ 52 - 1) < _
    omega
theorem cut_nanConv_lt (k : FloatKind) (x t : Nat) : Question.cut (.nanConv k x) t < 2 * k.format.signWeight := by
  have := cut_nanBits_lt k x x t
  cases k <;> exact this

section
variable {P : Program} (w : World)
/-- '+', '-', '*', '/' of floats, whatever they are. -/
theorem run_fl (op : BinOp) (hop : op = .add ∨ op = .sub ∨ op = .mul ∨ op = .quo) (t : TypeId) (k : FloatKind) (x y : Nat) :
    ∃ r n, (binOp op t (.float k x) (.float k y)).run P w = .ok (.float k r) (w.drewN n) ∧ FE k r (cop op k (cn k x) (cn k y)) := by
  cases h : floatBits op k x y with
  | some r => exact ⟨r, 0, run_float_arith w op t k x y r h, by rw [← floatBits_cop, h, floatBits_cn h], wf_sign (floatBits_wf h)⟩
  | none =>
    refine ⟨Question.cut (.nanBits k x y) (w.tape w.drawn (.nanBits k x y)), 1, ?_, (cut_nanBits k x y _).trans (by rw [← floatBits_cop, h]), cut_nanBits_lt k x y _⟩
    unfold floatBits at h
    rcases hop with rfl | rfl | rfl | rfl <;> (simp only at h; simp [binOp, Op.floatArith, h, choose, Sem.run, Question.forced]; rfl)

theorem upon_fl {o : Oper} {a : Act} {K : Act → World → Prop} {Q : Exit → Act → World → Prop} (op : BinOp) (hop : op = .add ∨ op = .sub ∨ op = .mul ∨ op = .quo) (t : TypeId) (k : FloatKind) (x y : Nat)
    (h : ∀ r n, FE k r (cop op k (cn k x) (cn k y)) → K (a.put o.dst (.float k r)) (w.drewN n)) :
    o.upon P a K Q ((Sem.run P (binOp op t (.float k x) (.float k y)) w).andThen fun v w' => .ok (.value v) w') := by
  obtain ⟨r, n, hr, hc⟩ := run_fl (P := P) w op hop t k x y
  rw [hr]
  exact h r n hc
end

/-! conversions -/
def cconv (s d : FloatKind) : Option Nat → Option Nat
  | some x => some (match s.decode x with | .infinity g => d.encode (.infinity g) | .number g m e => d.encode (.number g m e) | .nan _ _ => 0)
  | none => none

/-- no finite number too great for the other kind -/
def Fits (s d : FloatKind) : Option Nat → Prop
  | some x => ∀ g m e, s.decode x = .number g m e → (d.decode (d.encode (.number g m e))).isInfinity = false
  | none => True

theorem run_conv (P : Program) (w : World) (src dst : TypeId) (s d : FloatKind) (hsd : s ≠ d) (x : Nat) (hs : (P.underlying src).isSome = true) (hd : P.underlying dst = some (.float d)) (hf : Fits s d (cn s x)) :
    ∃ r n, (convert src dst (.float s x)).run P w = .ok (.float d r) (w.drewN n) ∧ FE d r (cconv s d (cn s x)) := by
  obtain ⟨u, hs'⟩ := Option.isSome_iff_exists.1 hs
  cases hx : s.decode x with
  | nan g t =>
    refine ⟨Question.cut (.nanConv d x) (w.tape w.drawn (.nanConv d x)), 1, ?_, (cut_nanConv d x _).trans (by simp [cn, hx, Ieee.Datum.isNaN, cconv]), cut_nanConv_lt d x _⟩
    cases u <;> (simp [convert, run_underlying hs', run_underlying hd, Conv.floatToFloat, hsd, hx, choose, Sem.run, Question.forced]; rfl)
  | infinity g =>
    have e : cn s x = some x := by simp [cn, hx, Ieee.Datum.isNaN]
    refine ⟨d.encode (.infinity g), 0, ?_, ?_, encode_sign _ _⟩
    · cases u <;> (simp [convert, run_underlying hs', run_underlying hd, Conv.floatToFloat, hsd, hx]; rfl)
    · rw [e]; simp only [cconv, hx, cn]
      rw [if_neg]; have := write_not_nan d.format (d := .infinity g) rfl; simp [FloatKind.decode, FloatKind.encode, this]
  | number g m e =>
    have e1 : cn s x = some x := by simp [cn, hx, Ieee.Datum.isNaN]
    have hfit : (d.decode (d.encode (.number g m e))).isInfinity = false := by rw [e1] at hf; exact hf g m e hx
    refine ⟨d.encode (.number g m e), 0, ?_, ?_, encode_sign _ _⟩
    · cases u <;> (simp [convert, run_underlying hs', run_underlying hd, Conv.floatToFloat, hsd, hx, hfit]; rfl)
    · rw [e1]; simp only [cconv, hx, cn]
      rw [if_neg]; have := write_not_nan d.format (d := .number g m e) rfl; simp [FloatKind.decode, FloatKind.encode, this]

theorem upon_conv {P : Program} (w : World) {o : Oper} {a : Act} {K : Act → World → Prop} {Q : Exit → Act → World → Prop} (src dst : TypeId) (s d : FloatKind) (hsd : s ≠ d) (x : Nat) (hs : (P.underlying src).isSome = true) (hd : P.underlying dst = some (.float d)) (hf : Fits s d (cn s x))
    (h : ∀ r n, FE d r (cconv s d (cn s x)) → K (a.put o.dst (.float d r)) (w.drewN n)) :
    o.upon P a K Q ((Sem.run P (convert src dst (.float s x)) w).andThen fun v w' => .ok (.value v) w') := by
  obtain ⟨r, n, hr, hc⟩ := run_conv P w src dst s d hsd x hs hd hf
  rw [hr]
  exact h r n hc

/-! what a call hands back, up to which not-a-number it is, and draws -/
def RetV (v : Value) (w : World) (e : Ending) (w' : World) : Prop := ∃ n, e = .returned v ∧ w' = w.drewN n
theorem RetV.mk {v v' : Value} {w : World} {n : Nat} (h : v = v') : RetV v' w (.returned v) (w.drewN n) := ⟨n, by rw [h], rfl⟩
theorem RetV.mk0 {v v' : Value} {w : World} (h : v = v') : RetV v' w (.returned v) w := ⟨0, by rw [h], rfl⟩
def RetF (k : FloatKind) (c : Option Nat) (w : World) (e : Ending) (w' : World) : Prop := ∃ r n, e = .returned (.float k r) ∧ FE k r c ∧ w' = w.drewN n
theorem RetF.mk {k : FloatKind} {r : Nat} {c : Option Nat} {w : World} {n : Nat} (h : FE k r c) : RetF k c w (.returned (.float k r)) (w.drewN n) := ⟨r, n, rfl, h, rfl⟩
theorem RetF.mk0 {k : FloatKind} {r : Nat} {c : Option Nat} {w : World} (h : FE k r c) : RetF k c w (.returned (.float k r)) w := ⟨r, 0, rfl, h, rfl⟩
def RetFB (k : FloatKind) (c : Option Nat) (b : Bool) (w : World) (e : Ending) (w' : World) : Prop := ∃ r n, e = .returned (.tuple #[.float k r, .bool b]) ∧ FE k r c ∧ w' = w.drewN n
theorem RetFB.mk {k : FloatKind} {r : Nat} {c : Option Nat} {b b' : Bool} {w : World} {n : Nat} (h : FE k r c) (hb : b' = b) : RetFB k c b w (.returned (.tuple #[.float k r, .bool b'])) (w.drewN n) := ⟨r, n, by rw [hb], h, rfl⟩
theorem RetFB.mk0 {k : FloatKind} {r : Nat} {c : Option Nat} {b b' : Bool} {w : World} (h : FE k r c) (hb : b' = b) : RetFB k c b w (.returned (.tuple #[.float k r, .bool b'])) w := ⟨r, 0, by rw [hb], h, rfl⟩

/-! comparisons -/
def cord (k : FloatKind) : Option Nat → Option Nat → Option Ordering
  | some x, some y => k.format.order x y
  | _, _ => none
theorem order_cord (k : FloatKind) (x y : Nat) : k.format.order x y = cord k (cn k x) (cn k y) := by
  unfold cn
  cases hx : (k.decode x).isNaN <;> cases hy : (k.decode y).isNaN <;> simp [cord]
  all_goals
    unfold Ieee.Format.order
    unfold FloatKind.decode at hx hy
    generalize k.format.read x = a at hx
    generalize k.format.read y = b at hy
    cases a <;> cases b <;> simp [Ieee.Datum.isNaN] at hx hy <;> simp [Ieee.Datum.order]

theorem order_none_left {k : FloatKind} {x y : Nat} (h : cn k x = none) : k.format.order x y = none := by rw [order_cord, h]; rfl
theorem order_none_right {k : FloatKind} {x y : Nat} (h : cn k y = none) : k.format.order x y = none := by rw [order_cord, h]; cases cn k x <;> rfl
theorem order_self {k : FloatKind} {x : Nat} (h : cn k x = some x) : k.format.order x x = some .eq := by
  have hx : (k.format.read x).isNaN = false := by
    unfold cn at h
    split at h
    · cases h
    · rename_i h'; simpa [FloatKind.decode] using h'
  unfold Ieee.Format.order
  cases hr : k.format.read x with
  | nan => rw [hr] at hx; cases hx
  | infinity s => cases s <;> rfl
  | number s m e => simp [Ieee.Datum.order]
theorem cn_some {k : FloatKind} {x v : Nat} (h : cn k x = some v) : v = x := by
  unfold cn at h
  split at h
  · cases h
  · cases h; rfl
theorem cn_cases (k : FloatKind) (x : Nat) : cn k x = none ∨ cn k x = some x := by
  unfold cn; split <;> simp
theorem cn_zero32 : cn .f32 0 = some 0 := by decide
theorem cn_zero64 : cn .f64 0 = some 0 := by decide

/-! from 32 bits to 64: nothing is too great -/
theorem infRung_of_isInfinity (k : FloatKind) (x : Nat) (h : (k.decode x).isInfinity = true) : x % k.format.signWeight = k.format.infRung := by
  have hb : k.format.binade ≤ k.format.infRung := by cases k <;> decide
  unfold FloatKind.decode Ieee.Format.read at h
  dsimp only at h
  split at h
  · cases h
  · split at h
    · cases h
    · split at h
      · assumption
      · cases h
end Go.Proofs.YticeapacffgikaaGreatDoor
