/- Plain laws of floating-point numbers up to which not-a-number they are. No condition. -/
import Derived.Laws.ComplexArith
import Derived.Deep.Draws
import Derived.Test.YtkemghecglbleaaGreatDoorRows
import Derived.WalkKit
import Derived.WalkSpells
import Derived.WalkLawsBesides
import GoSem.Extern.MathSqrt

namespace Go.Proofs.YtkemghecglbleaaGreatDoor

/-- What a float is, all not-a-numbers being one. -/
def cn (k : FloatKind) (x : Nat) : Option Nat := if (k.decode x).isNaN then none else some x

/-- 'r' is, up to which not-a-number it is, 'c'. -/
def FE (k : FloatKind) (r : Nat) (c : Option Nat) : Prop := cn k r = c ∧ r < 2 * k.format.signWeight
theorem FE.out {k : FloatKind} {r : Nat} {c : Option Nat} (h : FE k r c) : cn k r = c := h.1
theorem FE.lt {k : FloatKind} {r : Nat} {c : Option Nat} (h : FE k r c) : r < 2 * k.format.signWeight := h.2
theorem FE.cast {k : FloatKind} {r : Nat} {c d : Option Nat} (h : FE k r c) (e : c = d) : FE k r d := e ▸ h
theorem wf_sign {k : FloatKind} {r : Nat} (h : (Lit.float k r).wf = true) : r < 2 * k.format.signWeight := by
  have e : (2 : Nat) ^ k.format.width = 2 * k.format.signWeight := by cases k <;> rfl
  cases k
  · have : r < 2 ^ 32 := by simpa [Lit.wf] using h
    rw [← e]; exact this
  · have : r < 2 ^ 64 := by simpa [Lit.wf] using h
    rw [← e]; exact this
theorem encode_sign (k : FloatKind) (d : Ieee.Datum) : k.encode d < 2 * k.format.signWeight := wf_sign (encode_wf k d)

def cop (op : BinOp) (k : FloatKind) : Option Nat → Option Nat → Option Nat
  | some x, some y => floatBits op k x y
  | _, _ => none

theorem fmt_small (k : FloatKind) : k.format.signWeight = (match k with | .f32 => 2 ^ 31 | .f64 => 2 ^ 63) := by cases k <;> rfl

theorem read_word (f : Ieee.Format) (neg : Bool) {r : Nat} (h : r ≤ f.infRung) : (f.read (f.word neg r)).isNaN = false := by
  have hs := f.infRung_lt
  have hp : 0 < f.signWeight := Nat.two_pow_pos _
  have hw : f.word neg r % f.signWeight = r := by
    unfold Ieee.Format.word
    split
    · rw [Nat.add_mod_left, Nat.mod_eq_of_lt (by omega)]
    · exact Nat.mod_eq_of_lt (by omega)
  unfold Ieee.Format.read
  simp only [hw]
  split
  · rfl
  · split
    · rfl
    · rw [if_pos (by omega)]; rfl

theorem nearest_not_nan (f : Ieee.Format) (neg : Bool) (m : Nat) (p : Int) : (f.read (f.nearest neg m p)).isNaN = false := by
  unfold Ieee.Format.nearest
  dsimp only
  split
  · exact read_word f neg (Nat.zero_le _)
  · exact read_word f neg (Nat.min_le_right ..)

theorem write_not_nan (f : Ieee.Format) {d : Ieee.Datum} (h : d.isNaN = false) : (f.read (f.write d)).isNaN = false := by
  cases d with
  | number s m e => exact nearest_not_nan f s m e
  | infinity s => exact read_word f s (Nat.le_refl _)
  | nan s t => cases h

open Ieee in
theorem sum_not_nan {x y d : Datum} (h : x.sum y = some d) : d.isNaN = false := by
  unfold Datum.sum at h
  split at h <;> first | (cases h; done) | skip
  · split at h <;> cases h; rfl
  all_goals (cases h; rfl)

open Ieee in
theorem product_not_nan {x y d : Datum} (h : x.product y = some d) : d.isNaN = false := by
  unfold Datum.product at h
  split at h <;> first | (cases h; done) | skip
  · cases h; rfl
  · split at h <;> cases h; rfl
  · split at h <;> cases h; rfl
  · cases h; rfl

open Ieee in
theorem quotient_not_nan {n : Nat} {x y d : Datum} (h : x.quotient n y = some d) : d.isNaN = false := by
  unfold Datum.quotient at h
  split at h <;> first | (cases h; done) | skip
  · cases h; rfl
  · cases h; rfl
  · split at h
    · split at h <;> cases h; rfl
    · cases h; rfl

theorem floatBits_cn {op : BinOp} {k : FloatKind} {x y r : Nat} (h : floatBits op k x y = some r) : cn k r = some r := by
  have hn : (k.decode r).isNaN = false := by
    unfold floatBits at h
    split at h
    · unfold Ieee.Format.add at h
      obtain ⟨d, hd, rfl⟩ := Option.map_eq_some_iff.1 h
      exact write_not_nan _ (sum_not_nan hd)
    · unfold Ieee.Format.sub at h
      obtain ⟨d, hd, rfl⟩ := Option.map_eq_some_iff.1 h
      exact write_not_nan _ (sum_not_nan hd)
    · unfold Ieee.Format.mul at h
      obtain ⟨d, hd, rfl⟩ := Option.map_eq_some_iff.1 h
      exact write_not_nan _ (product_not_nan hd)
    · unfold Ieee.Format.div at h
      obtain ⟨d, hd, rfl⟩ := Option.map_eq_some_iff.1 h
      exact write_not_nan _ (quotient_not_nan hd)
    · cases h
  simp [cn, hn]

open Ieee in
theorem floatBits_nan {op : BinOp} {k : FloatKind} {x y : Nat} (h : (k.decode x).isNaN = true ∨ (k.decode y).isNaN = true) : floatBits op k x y = none := by
  unfold floatBits
  unfold FloatKind.decode at h
  unfold Format.add Format.sub Format.mul Format.div
  generalize k.format.read x = a at h
  generalize k.format.read y = b at h
  cases a <;> cases b <;> simp [Datum.isNaN] at h <;> (split <;> simp [Datum.sum, Datum.product, Datum.quotient, Datum.opposite])

theorem floatBits_cop (op : BinOp) (k : FloatKind) (x y : Nat) : floatBits op k x y = cop op k (cn k x) (cn k y) := by
  unfold cn
  cases hx : (k.decode x).isNaN <;> cases hy : (k.decode y).isNaN <;> simp [cop, floatBits_nan, hx, hy]

theorem read_isNaN (k : FloatKind) (x : Nat) : (k.decode x).isNaN = decide (k.format.infRung < x % k.format.signWeight) := by
  have hb : k.format.binade ≤ k.format.infRung := by cases k <;> decide
  unfold FloatKind.decode Ieee.Format.read
  dsimp only
  split
  · simp [Ieee.Datum.isNaN]; omega
  · split
    · simp [Ieee.Datum.isNaN]; omega
    · split
      · simp [Ieee.Datum.isNaN]; omega
      · simp [Ieee.Datum.isNaN]; omega

theorem f32_sign : FloatKind.f32.format.signWeight = 2147483648 := by rfl
theorem f32_inf : FloatKind.f32.format.infRung = 2139095040 := by rfl
theorem f64_sign : FloatKind.f64.format.signWeight = 9223372036854775808 := by rfl
theorem f64_inf : FloatKind.f64.format.infRung = 9218868437227405312 := by rfl

theorem nan_form32 (t : Nat) : cn .f32 ((t % 2) * 2 ^ 31 + 0x7f800000 + 1 + (t / 2) % (2 ^ 23 - 1)) = none := by
  have h2 := Nat.mod_lt (t / 2) (show 0 < 2 ^ 23 - 1 by decide)
  generalize t / 2 % (2 ^ 23 - 1) = u at h2
  generalize t % 2 = b
  have e : (b * 2 ^ 31 + 0x7f800000 + 1 + u) % 2147483648 = 0x7f800001 + u := by
    have : b * 2 ^ 31 + 0x7f800000 + 1 + u = (0x7f800001 + u) + b * 2147483648 := by omega
    rw [this, Nat.add_mul_mod_self_right, Nat.mod_eq_of_lt (by omega)]
  simp only [cn, read_isNaN, f32_sign, f32_inf, e]
  rw [if_pos]
  simp only [decide_eq_true_eq]
  omega
theorem nan_form64 (t : Nat) : cn .f64 ((t % 2) * 2 ^ 63 + 0x7ff0000000000000 + 1 + (t / 2) % (2 ^ 52 - 1)) = none := by
  have h2 := Nat.mod_lt (t / 2) (show 0 < 2 ^ 52 - 1 by decide)
  generalize t / 2 % (2 ^ 52 - 1) = u at h2
  generalize t % 2 = b
  have e : (b * 2 ^ 63 + 0x7ff0000000000000 + 1 + u) % 9223372036854775808 = 0x7ff0000000000001 + u := by
    have : b * 2 ^ 63 + 0x7ff0000000000000 + 1 + u = (0x7ff0000000000001 + u) + b * 9223372036854775808 := by omega
    rw [this, Nat.add_mul_mod_self_right, Nat.mod_eq_of_lt (by omega)]
  simp only [cn, read_isNaN, f64_sign, f64_inf, e]
  rw [if_pos]
  simp only [decide_eq_true_eq]
  omega

theorem cut_nanBits (k : FloatKind) (x y t : Nat) : cn k (Question.cut (.nanBits k x y) t) = none := by
  cases k
  · exact nan_form32 t
  · exact nan_form64 t
theorem cut_nanConv (k : FloatKind) (x t : Nat) : cn k (Question.cut (.nanConv k x) t) = none := by
  cases k
  · exact nan_form32 t
  · exact nan_form64 t

theorem cut_nanBits_lt (k : FloatKind) (x y t : Nat) : Question.cut (.nanBits k x y) t < 2 * k.format.signWeight := by
  cases k
  · have h2 := Nat.mod_lt (t / 2) (show 0 < 2 ^ 23 - 1 by decide)
    have h3 := Nat.mod_lt t (show 0 < 2 by decide)
    rw [f32_sign]
    show (t % 2) * 2 ^ 31 + 0x7f800000 + 1 + (t / 2) % (2 ^ 23 - 1) < _
    omega
  · have h2 := Nat.mod_lt (t / 2) (show 0 < 2 ^ 52 - 1 by decide)
    have h3 := Nat.mod_lt t (show 0 < 2 by decide)
    rw [f64_sign]
    show (t % 2) * 2 ^ 63 + 0x7ff0000000000000 + 1 + (t / 2) % (2 ^ 52 - 1) < _
    omega
theorem cut_nanConv_lt (k : FloatKind) (x t : Nat) : Question.cut (.nanConv k x) t < 2 * k.format.signWeight := by
  have := cut_nanBits_lt k x x t
  cases k <;> exact this

section
variable {P : Program} (w : World)
/-- '+', '-', '*', '/' of floats, whatever they are. -/
theorem run_fl (op : BinOp) (hop : op = .add ∨ op = .sub ∨ op = .mul ∨ op = .quo) (t : TypeId) (k : FloatKind) (x y : Nat) :
    ∃ r n, (binOp op t (.float k x) (.float k y)).run P w = .ok (.float k r) (w.drewN n) ∧ FE k r (cop op k (cn k x) (cn k y)) := by
  cases h : floatBits op k x y with
  | some r => exact ⟨r, 0, run_float_arith w op t k x y r h, by rw [← floatBits_cop, h, floatBits_cn h], wf_sign (floatBits_wf h)⟩
  | none =>
    refine ⟨Question.cut (.nanBits k x y) (w.tape w.drawn (.nanBits k x y)), 1, ?_, (cut_nanBits k x y _).trans (by rw [← floatBits_cop, h]), cut_nanBits_lt k x y _⟩
    unfold floatBits at h
    rcases hop with rfl | rfl | rfl | rfl <;> (simp only at h; simp [binOp, Op.floatArith, h, choose, Sem.run, Question.forced]; rfl)

theorem upon_fl {o : Oper} {a : Act} {K : Act → World → Prop} {Q : Exit → Act → World → Prop} (op : BinOp) (hop : op = .add ∨ op = .sub ∨ op = .mul ∨ op = .quo) (t : TypeId) (k : FloatKind) (x y : Nat)
    (h : ∀ r n, FE k r (cop op k (cn k x) (cn k y)) → K (a.put o.dst (.float k r)) (w.drewN n)) :
    o.upon P a K Q ((Sem.run P (binOp op t (.float k x) (.float k y)) w).andThen fun v w' => .ok (.value v) w') := by
  obtain ⟨r, n, hr, hc⟩ := run_fl (P := P) w op hop t k x y
  rw [hr]
  exact h r n hc
end

/-! conversions -/
def cconv (s d : FloatKind) : Option Nat → Option Nat
  | some x => some (match s.decode x with | .infinity g => d.encode (.infinity g) | .number g m e => d.encode (.number g m e) | .nan _ _ => 0)
  | none => none

/-- no finite number too great for the other kind -/
def Fits (s d : FloatKind) : Option Nat → Prop
  | some x => ∀ g m e, s.decode x = .number g m e → (d.decode (d.encode (.number g m e))).isInfinity = false
  | none => True

theorem run_conv (P : Program) (w : World) (src dst : TypeId) (s d : FloatKind) (hsd : s ≠ d) (x : Nat) (hs : (P.underlying src).isSome = true) (hd : P.underlying dst = some (.float d)) (hf : Fits s d (cn s x)) :
    ∃ r n, (convert src dst (.float s x)).run P w = .ok (.float d r) (w.drewN n) ∧ FE d r (cconv s d (cn s x)) := by
  obtain ⟨u, hs'⟩ := Option.isSome_iff_exists.1 hs
  cases hx : s.decode x with
  | nan g t =>
    refine ⟨Question.cut (.nanConv d x) (w.tape w.drawn (.nanConv d x)), 1, ?_, (cut_nanConv d x _).trans (by simp [cn, hx, Ieee.Datum.isNaN, cconv]), cut_nanConv_lt d x _⟩
    cases u <;> (simp [convert, run_underlying hs', run_underlying hd, Conv.floatToFloat, hsd, hx, choose, Sem.run, Question.forced]; rfl)
  | infinity g =>
    have e : cn s x = some x := by simp [cn, hx, Ieee.Datum.isNaN]
    refine ⟨d.encode (.infinity g), 0, ?_, ?_, encode_sign _ _⟩
    · cases u <;> (simp [convert, run_underlying hs', run_underlying hd, Conv.floatToFloat, hsd, hx]; rfl)
    · rw [e]; simp only [cconv, hx, cn]
      rw [if_neg]; have := write_not_nan d.format (d := .infinity g) rfl; simp [FloatKind.decode, FloatKind.encode, this]
  | number g m e =>
    have e1 : cn s x = some x := by simp [cn, hx, Ieee.Datum.isNaN]
    have hfit : (d.decode (d.encode (.number g m e))).isInfinity = false := by rw [e1] at hf; exact hf g m e hx
    refine ⟨d.encode (.number g m e), 0, ?_, ?_, encode_sign _ _⟩
    · cases u <;> (simp [convert, run_underlying hs', run_underlying hd, Conv.floatToFloat, hsd, hx, hfit]; rfl)
    · rw [e1]; simp only [cconv, hx, cn]
      rw [if_neg]; have := write_not_nan d.format (d := .number g m e) rfl; simp [FloatKind.decode, FloatKind.encode, this]

theorem upon_conv {P : Program} (w : World) {o : Oper} {a : Act} {K : Act → World → Prop} {Q : Exit → Act → World → Prop} (src dst : TypeId) (s d : FloatKind) (hsd : s ≠ d) (x : Nat) (hs : (P.underlying src).isSome = true) (hd : P.underlying dst = some (.float d)) (hf : Fits s d (cn s x))
    (h : ∀ r n, FE d r (cconv s d (cn s x)) → K (a.put o.dst (.float d r)) (w.drewN n)) :
    o.upon P a K Q ((Sem.run P (convert src dst (.float s x)) w).andThen fun v w' => .ok (.value v) w') := by
  obtain ⟨r, n, hr, hc⟩ := run_conv P w src dst s d hsd x hs hd hf
  rw [hr]
  exact h r n hc

/-! what a call hands back, up to which not-a-number it is, and draws -/
def RetV (v : Value) (w : World) (e : Ending) (w' : World) : Prop := ∃ n, e = .returned v ∧ w' = w.drewN n
theorem RetV.mk {v v' : Value} {w : World} {n : Nat} (h : v = v') : RetV v' w (.returned v) (w.drewN n) := ⟨n, by rw [h], rfl⟩
theorem RetV.mk0 {v v' : Value} {w : World} (h : v = v') : RetV v' w (.returned v) w := ⟨0, by rw [h], rfl⟩
def RetF (k : FloatKind) (c : Option Nat) (w : World) (e : Ending) (w' : World) : Prop := ∃ r n, e = .returned (.float k r) ∧ FE k r c ∧ w' = w.drewN n
theorem RetF.mk {k : FloatKind} {r : Nat} {c : Option Nat} {w : World} {n : Nat} (h : FE k r c) : RetF k c w (.returned (.float k r)) (w.drewN n) := ⟨r, n, rfl, h, rfl⟩
theorem RetF.mk0 {k : FloatKind} {r : Nat} {c : Option Nat} {w : World} (h : FE k r c) : RetF k c w (.returned (.float k r)) w := ⟨r, 0, rfl, h, rfl⟩
def RetFB (k : FloatKind) (c : Option Nat) (b : Bool) (w : World) (e : Ending) (w' : World) : Prop := ∃ r n, e = .returned (.tuple #[.float k r, .bool b]) ∧ FE k r c ∧ w' = w.drewN n
theorem RetFB.mk {k : FloatKind} {r : Nat} {c : Option Nat} {b b' : Bool} {w : World} {n : Nat} (h : FE k r c) (hb : b' = b) : RetFB k c b w (.returned (.tuple #[.float k r, .bool b'])) (w.drewN n) := ⟨r, n, by rw [hb], h, rfl⟩
theorem RetFB.mk0 {k : FloatKind} {r : Nat} {c : Option Nat} {b b' : Bool} {w : World} (h : FE k r c) (hb : b' = b) : RetFB k c b w (.returned (.tuple #[.float k r, .bool b'])) w := ⟨r, 0, by rw [hb], h, rfl⟩

/-! comparisons -/
def cord (k : FloatKind) : Option Nat → Option Nat → Option Ordering
  | some x, some y => k.format.order x y
  | _, _ => none
theorem order_cord (k : FloatKind) (x y : Nat) : k.format.order x y = cord k (cn k x) (cn k y) := by
  unfold cn
  cases hx : (k.decode x).isNaN <;> cases hy : (k.decode y).isNaN <;> simp [cord]
  all_goals
    unfold Ieee.Format.order
    unfold FloatKind.decode at hx hy
    generalize k.format.read x = a at hx
    generalize k.format.read y = b at hy
    cases a <;> cases b <;> simp [Ieee.Datum.isNaN] at hx hy <;> simp [Ieee.Datum.order]

theorem order_none_left {k : FloatKind} {x y : Nat} (h : cn k x = none) : k.format.order x y = none := by rw [order_cord, h]; rfl
theorem order_none_right {k : FloatKind} {x y : Nat} (h : cn k y = none) : k.format.order x y = none := by rw [order_cord, h]; cases cn k x <;> rfl
theorem order_self {k : FloatKind} {x : Nat} (h : cn k x = some x) : k.format.order x x = some .eq := by
  have hx : (k.format.read x).isNaN = false := by
    unfold cn at h
    split at h
    · cases h
    · rename_i h'; simpa [FloatKind.decode] using h'
  unfold Ieee.Format.order
  cases hr : k.format.read x with
  | nan => rw [hr] at hx; cases hx
  | infinity s => cases s <;> rfl
  | number s m e => simp [Ieee.Datum.order]
theorem cn_some {k : FloatKind} {x v : Nat} (h : cn k x = some v) : v = x := by
  unfold cn at h
  split at h
  · cases h
  · cases h; rfl
theorem cn_cases (k : FloatKind) (x : Nat) : cn k x = none ∨ cn k x = some x := by
  unfold cn; split <;> simp
theorem cn_zero32 : cn .f32 0 = some 0 := by decide
theorem cn_zero64 : cn .f64 0 = some 0 := by decide

/-! from 32 bits to 64: nothing is too great -/
theorem infRung_of_isInfinity (k : FloatKind) (x : Nat) (h : (k.decode x).isInfinity = true) : x % k.format.signWeight = k.format.infRung := by
  have hb : k.format.binade ≤ k.format.infRung := by cases k <;> decide
  unfold FloatKind.decode Ieee.Format.read at h
  dsimp only at h
  split at h
  · cases h
  · split at h
    · cases h
    · split at h
      · assumption
      · cases h
end Go.Proofs.YtkemghecglbleaaGreatDoor
/- Plain laws of floating-point numbers: how great a result can be. No condition. -/
namespace Go.Proofs.YtkemghecglbleaaGreatDoor
set_option maxRecDepth 100000

/-! how great: 'Lg k c T': if c is some x, x is a finite number below 2^(T+1) -/
def Dl (d : Ieee.Datum) (T : Int) : Prop := ∃ s m e, d = .number s m e ∧ (m = 0 ∨ e + (m.log2 : Int) ≤ T)
def Lg (k : FloatKind) (c : Option Nat) (T : Int) : Prop := ∀ x, c = some x → Dl (k.decode x) T

theorem Dl.mono {d : Ieee.Datum} {T U : Int} (h : Dl d T) (hu : T ≤ U) : Dl d U := by
  obtain ⟨s, m, e, rfl, h⟩ := h
  exact ⟨s, m, e, rfl, h.imp id (fun h => by omega)⟩
theorem Lg.mono {k : FloatKind} {c : Option Nat} {T U : Int} (h : Lg k c T) (hu : T ≤ U) : Lg k c U := fun x hx => (h x hx).mono hu

theorem log2_lt (m : Nat) : m < 2 ^ (m.log2 + 1) := Nat.lt_log2_self
theorem log2_le_of_lt {m a : Nat} (h : m < 2 ^ (a + 1)) : m = 0 ∨ m.log2 ≤ a := by
  rcases Nat.eq_zero_or_pos m with h0 | h0
  · exact .inl h0
  · right
    have := (Nat.log2_lt (by omega)).2 h
    omega

theorem cut_le (neg : Bool) (n drop : Nat) : Ieee.Toward.even.cut neg n drop ≤ n / 2 ^ (min drop (n.log2 + 2)) + 1 := by
  unfold Ieee.Toward.cut
  simp only [Nat.one_shiftLeft]
  have : ∀ b : Bool, b.toNat ≤ 1 := by decide
  have h := this (decide (2 ^ min drop (n.log2 + 2) < 2 * (n % 2 ^ min drop (n.log2 + 2))) || (2 ^ min drop (n.log2 + 2) == 2 * (n % 2 ^ min drop (n.log2 + 2)) && n / 2 ^ min drop (n.log2 + 2) % 2 == 1))
  exact Nat.add_le_add_left h _

/-- the significand that is kept has at most one digit more than the fraction, or is the next power of two -/
theorem kept_le (f : Ieee.Format) (neg : Bool) (m : Nat) (p : Int) :
    Ieee.Toward.even.cut neg (m <<< (p - max (p + m.log2 - f.fractionBits) f.leastPlace).toNat) (max (p + m.log2 - f.fractionBits) f.leastPlace - p).toNat ≤ 2 * f.binade := by
  generalize hl : max (p + (m.log2 : Int) - f.fractionBits) f.leastPlace = last
  have hlast : p + (m.log2 : Int) - f.fractionBits ≤ last := by omega
  have hmlt := log2_lt m
  refine Nat.le_trans (cut_le ..) ?_
  unfold Ieee.Format.binade
  have hpow : 2 * 2 ^ f.fractionBits = 2 ^ (f.fractionBits + 1) := by rw [Nat.pow_succ]; omega
  rw [hpow]
  refine Nat.succ_le_of_lt ?_
  rw [Nat.div_lt_iff_lt_mul (Nat.two_pow_pos _), ← Nat.pow_add, Nat.shiftLeft_eq]
  rcases Int.le_total last p with h | h
  · have e1 : (last - p).toNat = 0 := by omega
    rw [e1, Nat.zero_min, Nat.add_zero]
    refine Nat.lt_of_lt_of_le (Nat.mul_lt_mul_of_pos_right hmlt (Nat.two_pow_pos _)) ?_
    rw [← Nat.pow_add]
    exact Nat.pow_le_pow_right (by omega) (by omega)
  · have e1 : (p - last).toNat = 0 := by omega
    rw [e1]
    simp only [Nat.pow_zero, Nat.mul_one]
    refine Nat.lt_of_lt_of_le hmlt (Nat.pow_le_pow_right (by omega) ?_)
    omega

theorem nearest_word (f : Ieee.Format) (neg : Bool) (m : Nat) (p : Int) (hm : m ≠ 0) (T : Int) (hT : p + (m.log2 : Int) ≤ T) (hlo : f.leastPlace + f.fractionBits ≤ T) :
    ∃ r, f.nearest neg m p = f.word neg r ∧ r ≤ ((T - f.fractionBits - f.leastPlace).toNat + 2) * f.binade ∧ r ≤ f.infRung := by
  unfold Ieee.Format.nearest
  dsimp only
  rw [if_neg hm]
  refine ⟨_, rfl, ?_, Nat.min_le_right ..⟩
  refine Nat.le_trans (Nat.min_le_left ..) ?_
  have hk := kept_le f neg m p
  rw [Nat.add_mul]
  refine Nat.add_le_add (Nat.mul_le_mul_right _ ?_) hk
  omega

theorem read_of_rung (f : Ieee.Format) (neg : Bool) (r : Nat) (T : Int) (hr : r ≤ f.infRung) (hlo : f.leastPlace + f.fractionBits ≤ T) (hb : 0 < f.fractionBits)
    (h : r ≤ ((T - f.fractionBits - f.leastPlace).toNat + 1) * f.binade) (hfin : ((T - f.fractionBits - f.leastPlace).toNat + 1) * f.binade < f.infRung) : Dl (f.read (f.word neg r)) T := by
  have hs := f.infRung_lt
  have hbp : 0 < f.binade := Nat.two_pow_pos _
  have hw : f.word neg r % f.signWeight = r := by
    unfold Ieee.Format.word
    split
    · rw [Nat.add_mod_left, Nat.mod_eq_of_lt (by omega)]
    · exact Nat.mod_eq_of_lt (by omega)
  unfold Ieee.Format.read
  simp only [hw]
  split
  · rename_i hlt
    refine ⟨_, _, _, rfl, ?_⟩
    have : r < 2 ^ (f.fractionBits - 1 + 1) := by rw [Nat.sub_add_cancel hb]; exact hlt
    rcases log2_le_of_lt this with h0 | h0
    · exact .inl h0
    · right; omega
  · rename_i hge
    rw [if_pos (by omega)]
    refine ⟨_, _, _, rfl, .inr ?_⟩
    have hmod := Nat.mod_lt r hbp
    have hsum : f.binade + r % f.binade < 2 ^ (f.fractionBits + 1) := by
      rw [Nat.pow_succ]; unfold Ieee.Format.binade at *; omega
    have hdiv : r / f.binade ≤ (T - f.fractionBits - f.leastPlace).toNat + 1 := by
      have := Nat.div_le_div_right (c := f.binade) h
      rwa [Nat.mul_div_cancel _ hbp] at this
    rcases log2_le_of_lt hsum with h0 | h0
    · omega
    · have hd1 : 1 ≤ r / f.binade := (Nat.le_div_iff_mul_le hbp).2 (by omega)
      omega

theorem nearest_Dl (f : Ieee.Format) (neg : Bool) (m : Nat) (p : Int) (T : Int) (h : m = 0 ∨ p + (m.log2 : Int) ≤ T) (hlo : f.leastPlace + f.fractionBits ≤ T) (hb : 0 < f.fractionBits)
    (hfin : ((T - f.fractionBits - f.leastPlace).toNat + 2) * f.binade < f.infRung) : Dl (f.read (f.nearest neg m p)) (T + 1) := by
  have e : ((T + 1 - f.fractionBits - f.leastPlace).toNat + 1) = (T - f.fractionBits - f.leastPlace).toNat + 2 := by omega
  by_cases hm : m = 0
  · unfold Ieee.Format.nearest
    rw [if_pos hm]
    refine read_of_rung f neg 0 (T + 1) (Nat.zero_le _) (by omega) hb (Nat.zero_le _) (by rw [e]; exact hfin)
  · obtain ⟨r, hr, h1, h2⟩ := nearest_word f neg m p hm T (h.resolve_left hm) hlo
    rw [hr]
    exact read_of_rung f neg r (T + 1) h2 (by omega) hb (by rw [e]; exact h1) (by rw [e]; exact hfin)

theorem f32_least : FloatKind.f32.format.leastPlace = -149 := by rfl
theorem f64_least : FloatKind.f64.format.leastPlace = -1074 := by rfl
theorem f32_frac : FloatKind.f32.format.fractionBits = 23 := by rfl
theorem f64_frac : FloatKind.f64.format.fractionBits = 52 := by rfl
theorem f32_bin : FloatKind.f32.format.binade = 8388608 := by rfl
theorem f64_bin : FloatKind.f64.format.binade = 4503599627370496 := by rfl

/-- the greatest T at which a bound still keeps a result finite -/
def top : FloatKind → Int | .f32 => 125 | .f64 => 1021

theorem write_Dl (k : FloatKind) {d : Ieee.Datum} {T : Int} (h : Dl d T) (h0 : 0 ≤ T) (h1 : T ≤ top k) : Dl (k.decode (k.encode d)) (T + 1) := by
  obtain ⟨s, m, e, rfl, h⟩ := h
  unfold FloatKind.decode FloatKind.encode Ieee.Format.write
  refine nearest_Dl k.format s m e T h ?_ ?_ ?_
  · cases k
    · rw [f32_least, f32_frac]; omega
    · rw [f64_least, f64_frac]; omega
  · cases k <;> decide
  · cases k
    · simp only [top] at h1
      rw [f32_least, f32_frac, f32_bin, f32_inf]; omega
    · simp only [top] at h1
      rw [f64_least, f64_frac, f64_bin, f64_inf]; omega

theorem Dl.not_inf {d : Ieee.Datum} {T : Int} (h : Dl d T) : d.isInfinity = false := by
  obtain ⟨s, m, e, rfl, _⟩ := h; rfl

def wide : FloatKind → Int | .f32 => 127 | .f64 => 1023
def lastB : FloatKind → Nat | .f32 => 254 | .f64 => 2046
theorem inf_lastB (k : FloatKind) : k.format.infRung = lastB k * k.format.binade + k.format.binade := by
  cases k
  · rw [f32_inf, f32_bin]; simp [lastB]
  · rw [f64_inf, f64_bin]; simp [lastB]
/-- every number that is finite lies below 2^128, or 2^1024 -/
theorem decode_Dl (k : FloatKind) (x : Nat) {s : Bool} {m : Nat} {e : Int} (h : k.decode x = .number s m e) : Dl (k.decode x) (wide k) := by
  refine ⟨s, m, e, h, ?_⟩
  have hinf := inf_lastB k
  have hbp : 0 < k.format.binade := Nat.two_pow_pos _
  unfold FloatKind.decode Ieee.Format.read at h
  dsimp only at h
  generalize x % k.format.signWeight = r at h
  split at h
  · rename_i hlt
    cases h
    have : m < 2 ^ (k.format.fractionBits - 1 + 1) := by
      rw [Nat.sub_add_cancel (by cases k <;> decide)]; exact hlt
    rcases log2_le_of_lt this with h0 | h0
    · exact .inl h0
    · right
      cases k
      · rw [f32_frac] at h0; rw [f32_least]; simp only [wide]; omega
      · rw [f64_frac] at h0; rw [f64_least]; simp only [wide]; omega
  · split at h
    · rename_i hge hlt
      cases h
      right
      have hmod := Nat.mod_lt r hbp
      have hsum : k.format.binade + r % k.format.binade < 2 ^ (k.format.fractionBits + 1) := by
        rw [Nat.pow_succ]; unfold Ieee.Format.binade at *; omega
      have hdiv : r / k.format.binade ≤ lastB k := by
        refine Nat.le_of_lt_succ ((Nat.div_lt_iff_lt_mul hbp).2 ?_)
        cases k
        · rw [f32_bin]; rw [f32_bin] at hinf; simp only [lastB] at hinf ⊢; omega
        · rw [f64_bin]; rw [f64_bin] at hinf; simp only [lastB] at hinf ⊢; omega
      have hd1 : 1 ≤ r / k.format.binade := (Nat.le_div_iff_mul_le hbp).2 (by omega)
      rcases log2_le_of_lt hsum with h0 | h0
      · omega
      · cases k
        · rw [f32_frac] at h0; rw [f32_least]; simp only [lastB, wide] at hdiv ⊢; omega
        · rw [f64_frac] at h0; rw [f64_least]; simp only [lastB, wide] at hdiv ⊢; omega
    · split at h <;> cases h

theorem fits_up (c : Option Nat) : Fits .f32 .f64 c := by
  cases c with
  | none => trivial
  | some x =>
    intro g m e h
    have h1 := decode_Dl .f32 x h
    rw [h] at h1
    exact (write_Dl .f64 h1 (by decide) (by decide)).not_inf

/-- A 64-bit number below 2^126 is narrowed to a finite one. -/
theorem fits_down {c : Option Nat} {T : Int} (h : Lg .f64 c T) (h0 : 0 ≤ T) (h1 : T ≤ 125) : Fits .f64 .f32 c := by
  cases c with
  | none => trivial
  | some x =>
    intro g m e hx
    have h2 := h x rfl
    rw [hx] at h2
    exact (write_Dl .f32 h2 h0 h1).not_inf

/-! the operations -/
open Ieee in
theorem Dl.sum {x y d : Datum} {T : Int} (hx : Dl x T) (hy : Dl y T) (h : x.sum y = some d) : Dl d (T + 1) := by
  obtain ⟨s, m, i, rfl, hx⟩ := hx
  obtain ⟨t, n, j, rfl, hy⟩ := hy
  simp only [Datum.sum, Option.some.injEq] at h
  subst h
  refine ⟨_, _, _, rfl, ?_⟩
  have hs : ∀ (s : Bool) (m a : Nat), (signed s m a).natAbs = m * 2 ^ a := by
    intro s m a; unfold signed; split <;> (rw [Nat.shiftLeft_eq]; first | rw [Int.natAbs_neg, Int.natAbs_natCast] | rw [Int.natAbs_natCast])
  have hle := Int.natAbs_add_le (signed s m (i - min i j).toNat) (signed t n (j - min i j).toNat)
  rw [hs, hs] at hle
  generalize hM : (signed s m (i - min i j).toNat + signed t n (j - min i j).toNat).natAbs = M at hle ⊢
  by_cases hT : T + 1 - min i j < 0
  · -- both are nought
    left
    have e1 : m = 0 := by
      rcases hx with h | h
      · exact h
      · omega
    have e2 : n = 0 := by
      rcases hy with h | h
      · exact h
      · omega
    subst e1; subst e2
    simpa using hle
  have b1 : m * 2 ^ (i - min i j).toNat < 2 ^ ((T + 1 - min i j).toNat) ∨ m = 0 := by
    rcases hx with h | h
    · exact .inr h
    · left
      refine Nat.lt_of_lt_of_le (Nat.mul_lt_mul_of_pos_right (log2_lt m) (Nat.two_pow_pos _)) ?_
      rw [← Nat.pow_add]
      exact Nat.pow_le_pow_right (by omega) (by omega)
  have b2 : n * 2 ^ (j - min i j).toNat < 2 ^ ((T + 1 - min i j).toNat) ∨ n = 0 := by
    rcases hy with h | h
    · exact .inr h
    · left
      refine Nat.lt_of_lt_of_le (Nat.mul_lt_mul_of_pos_right (log2_lt n) (Nat.two_pow_pos _)) ?_
      rw [← Nat.pow_add]
      exact Nat.pow_le_pow_right (by omega) (by omega)
  have hp : 0 < 2 ^ ((T + 1 - min i j).toNat) := Nat.two_pow_pos _
  have b1' : m * 2 ^ (i - min i j).toNat < 2 ^ ((T + 1 - min i j).toNat) := by
    rcases b1 with h | h
    · exact h
    · subst h; simpa using hp
  have b2' : n * 2 ^ (j - min i j).toNat < 2 ^ ((T + 1 - min i j).toNat) := by
    rcases b2 with h | h
    · exact h
    · subst h; simpa using hp
  have hM' : M < 2 ^ ((T + 1 - min i j).toNat + 1) := by
    rw [Nat.pow_succ]; omega
  rcases log2_le_of_lt hM' with h | h
  · exact .inl h
  · right; omega

open Ieee in
theorem Dl.opposite {y : Datum} {T : Int} (h : Dl y T) : Dl y.opposite T := by
  obtain ⟨s, m, i, rfl, h⟩ := h; exact ⟨!s, m, i, rfl, h⟩

open Ieee in
theorem Dl.product {x y d : Datum} {T U : Int} (hx : Dl x T) (hy : Dl y U) (h : x.product y = some d) : Dl d (T + U + 1) := by
  obtain ⟨s, m, i, rfl, hx⟩ := hx
  obtain ⟨t, n, j, rfl, hy⟩ := hy
  simp only [Datum.product, Option.some.injEq] at h
  subst h
  refine ⟨_, _, _, rfl, ?_⟩
  rcases hx with h | hx
  · left; simp [h]
  rcases hy with h | hy
  · left; simp [h]
  have : m * n < 2 ^ (m.log2 + n.log2 + 1 + 1) := by
    have := Nat.mul_lt_mul'' (log2_lt m) (log2_lt n)
    rw [← Nat.pow_add] at this
    rwa [show m.log2 + n.log2 + 1 + 1 = m.log2 + 1 + (n.log2 + 1) by omega]
  rcases log2_le_of_lt this with h | h
  · exact .inl h
  · right; omega

/-- at least 2^L, and no not-a-number -/
def Al (d : Ieee.Datum) (L : Int) : Prop := ∃ s m e, d = .number s m e ∧ m ≠ 0 ∧ L ≤ e + (m.log2 : Int)

open Ieee in
theorem Dl.quotient {x y d : Datum} {q : Nat} {T L : Int} (hx : Dl x T) (hy : Al y L) (h : x.quotient q y = some d) : Dl d (T - L + 1) := by
  obtain ⟨s, m, i, rfl, hx⟩ := hx
  obtain ⟨t, n, j, rfl, hn, hy⟩ := hy
  simp only [Datum.quotient, if_neg hn, Option.some.injEq] at h
  subst h
  refine ⟨_, _, _, rfl, ?_⟩
  have hmore : n.log2 ≤ m.log2 + (q + n.log2 - m.log2) := by omega
  generalize q + n.log2 - m.log2 = more at hmore
  rw [Nat.shiftLeft_eq]
  rcases hx with h | hx
  · left; subst h; simp
  have hb : ∀ b : Bool, b.toNat ≤ 1 := by decide
  have h1 := hb (m * 2 ^ more % n != 0)
  have hn' : 2 ^ n.log2 ≤ n := Nat.log2_self_le hn
  have hlt : m * 2 ^ more < 2 ^ (m.log2 + 1 + more) := by
    rw [Nat.pow_add]; exact Nat.mul_lt_mul_of_pos_right (log2_lt m) (Nat.two_pow_pos _)
  have hq : m * 2 ^ more / n < 2 ^ (m.log2 + 1 + more - n.log2) := by
    rw [Nat.div_lt_iff_lt_mul (by omega)]
    refine Nat.lt_of_lt_of_le hlt ?_
    refine Nat.le_trans ?_ (Nat.mul_le_mul_left _ hn')
    rw [← Nat.pow_add]
    exact Nat.pow_le_pow_right (by omega) (by omega)
  have : 2 * (m * 2 ^ more / n) + (m * 2 ^ more % n != 0).toNat < 2 ^ (m.log2 + 1 + more - n.log2 + 1) := by
    rw [Nat.pow_succ]; omega
  rcases log2_le_of_lt this with h | h
  · exact .inl h
  · right; omega

theorem Lg.cop_add {k : FloatKind} {c d : Option Nat} {T : Int} (hc : Lg k c T) (hd : Lg k d T) (h0 : 0 ≤ T) (h1 : T + 1 ≤ top k) : Lg k (cop .add k c d) (T + 2) := by
  intro r hr
  cases c with
  | none => cases hr
  | some x =>
  cases d with
  | none => cases hr
  | some y =>
    simp only [cop, floatBits] at hr
    obtain ⟨e, he, rfl⟩ := Option.map_eq_some_iff.1 hr
    have := write_Dl k (Dl.sum (hc x rfl) (hd y rfl) he) (by omega) h1
    rwa [show T + 2 = T + 1 + 1 by omega]

theorem Lg.cop_sub {k : FloatKind} {c d : Option Nat} {T : Int} (hc : Lg k c T) (hd : Lg k d T) (h0 : 0 ≤ T) (h1 : T + 1 ≤ top k) : Lg k (cop .sub k c d) (T + 2) := by
  intro r hr
  cases c with
  | none => cases hr
  | some x =>
  cases d with
  | none => cases hr
  | some y =>
    simp only [cop, floatBits] at hr
    obtain ⟨e, he, rfl⟩ := Option.map_eq_some_iff.1 hr
    have := write_Dl k (Dl.sum (hc x rfl) (hd y rfl).opposite he) (by omega) h1
    rwa [show T + 2 = T + 1 + 1 by omega]

theorem Lg.cop_mul {k : FloatKind} {c d : Option Nat} {T U : Int} (hc : Lg k c T) (hd : Lg k d U) (h0 : 0 ≤ T + U + 1) (h1 : T + U + 1 ≤ top k) : Lg k (cop .mul k c d) (T + U + 2) := by
  intro r hr
  cases c with
  | none => cases hr
  | some x =>
  cases d with
  | none => cases hr
  | some y =>
    simp only [cop, floatBits] at hr
    obtain ⟨e, he, rfl⟩ := Option.map_eq_some_iff.1 hr
    have := write_Dl k (Dl.product (hc x rfl) (hd y rfl) he) h0 h1
    rwa [show T + U + 2 = T + U + 1 + 1 by omega]

theorem Lg.cop_quo {k : FloatKind} {c : Option Nat} {y : Nat} {T L : Int} (hc : Lg k c T) (hy : Al (k.decode y) L) (h0 : 0 ≤ T - L + 1) (h1 : T - L + 1 ≤ top k) : Lg k (cop .quo k c (some y)) (T - L + 2) := by
  intro r hr
  cases c with
  | none => cases hr
  | some x =>
    simp only [cop, floatBits] at hr
    obtain ⟨e, he, rfl⟩ := Option.map_eq_some_iff.1 hr
    have := write_Dl k (Dl.quotient (hc x rfl) hy he) h0 h1
    rwa [show T - L + 2 = T - L + 1 + 1 by omega]
end Go.Proofs.YtkemghecglbleaaGreatDoor
/- Plain laws of floating-point numbers: how they compare: as the integers that number them. No condition. -/
namespace Go.Proofs.YtkemghecglbleaaGreatDoor
set_option maxRecDepth 100000

/-- what a rung stands for, in units of the least number -/
def rval (B r : Nat) : Nat := if r < B then r else (B + r % B) * 2 ^ (r / B - 1)

theorem rval_succ (B r : Nat) (hB : 0 < B) : rval B r < rval B (r + 1) := by
  unfold rval
  by_cases h1 : r + 1 < B
  · rw [if_pos (by omega), if_pos h1]; omega
  · by_cases h2 : r < B
    · have e : r + 1 = B := by omega
      rw [if_pos h2, if_neg h1, e, Nat.mod_self, Nat.div_self hB]
      simp; omega
    · rw [if_neg h2, if_neg h1]
      have hd : 1 ≤ r / B := (Nat.le_div_iff_mul_le hB).2 (by omega)
      have hm := Nat.mod_lt r hB
      by_cases h3 : r % B + 1 = B
      · have hr : B * (r / B) + r % B = r := Nat.div_add_mod r B
        have e : r + 1 = B * (r / B + 1) := by rw [Nat.mul_add, Nat.mul_one]; omega
        rw [e, Nat.mul_mod_right, Nat.mul_div_cancel_left _ hB]
        have e2 : r / B + 1 - 1 = (r / B - 1) + 1 := by omega
        rw [e2, Nat.pow_succ, Nat.add_zero, ← Nat.mul_assoc, Nat.mul_right_comm]
        exact Nat.mul_lt_mul_of_pos_right (by omega) (Nat.two_pow_pos _)
      · have hr : B * (r / B) + r % B = r := Nat.div_add_mod r B
        have e : r + 1 = (r % B + 1) + B * (r / B) := by omega
        have e1 : (r + 1) % B = r % B + 1 := by
          rw [e, Nat.add_mul_mod_self_left, Nat.mod_eq_of_lt (by omega)]
        have e2 : (r + 1) / B = r / B := by
          rw [e, Nat.add_mul_div_left _ _ hB, Nat.div_eq_of_lt (by omega), Nat.zero_add]
        rw [e1, e2]
        exact Nat.mul_lt_mul_of_pos_right (by omega) (Nat.two_pow_pos _)

theorem rval_lt (B : Nat) (hB : 0 < B) {r s : Nat} (h : r < s) : rval B r < rval B s := by
  induction s with
  | zero => omega
  | succ s ih =>
    have := rval_succ B s hB
    rcases Nat.lt_or_eq_of_le (Nat.le_of_lt_succ h) with h' | h'
    · have := ih h'; omega
    · subst h'; exact this

theorem rval_zero (B : Nat) (hB : 0 < B) : rval B 0 = 0 := by unfold rval; rw [if_pos hB]

/-- the number that numbers a float, with its sign -/
def sr (k : FloatKind) (x : Nat) : Int := if k.format.signWeight ≤ x then -((x % k.format.signWeight : Nat) : Int) else ((x % k.format.signWeight : Nat) : Int)
def sgn (k : FloatKind) (x : Nat) : Bool := decide (k.format.signWeight ≤ x)
/-- what it stands for, in units of the least number -/
def sv (k : FloatKind) (x : Nat) : Int := if k.format.signWeight ≤ x then -((rval k.format.binade (x % k.format.signWeight) : Nat) : Int) else ((rval k.format.binade (x % k.format.signWeight) : Nat) : Int)

theorem quot_sgn (k : FloatKind) (x : Nat) (hx : x < 2 * k.format.signWeight) : (x / k.format.signWeight % 2 == 1) = sgn k x := by
  have hp : 0 < k.format.signWeight := Nat.two_pow_pos _
  unfold sgn
  by_cases h : k.format.signWeight ≤ x
  · have h1 : x / k.format.signWeight = 1 := Nat.div_eq_of_lt_le (by omega) (by omega)
    simp [h, h1]
  · have h1 : x / k.format.signWeight = 0 := Nat.div_eq_of_lt (by omega)
    simp [h, h1]

theorem read_num (k : FloatKind) (x : Nat) (hx : x < 2 * k.format.signWeight) (hr : x % k.format.signWeight < k.format.infRung) :
    ∃ m e, k.decode x = .number (sgn k x) m e ∧ k.format.leastPlace ≤ e ∧ m * 2 ^ (e - k.format.leastPlace).toNat = rval k.format.binade (x % k.format.signWeight) := by
  have hs := quot_sgn k x hx
  unfold FloatKind.decode Ieee.Format.read
  dsimp only
  rw [hs]
  generalize x % k.format.signWeight = r at hr
  unfold rval
  split
  · exact ⟨_, _, rfl, Int.le_refl _, by simp⟩
  · refine ⟨_, _, rfl, by omega, ?_⟩
    congr 2
    omega

theorem read_inf (k : FloatKind) (x : Nat) (hx : x < 2 * k.format.signWeight) (hr : x % k.format.signWeight = k.format.infRung) : k.decode x = .infinity (sgn k x) := by
  have hs := quot_sgn k x hx
  have hb : k.format.binade ≤ k.format.infRung := by cases k <;> decide
  unfold FloatKind.decode Ieee.Format.read
  dsimp only
  rw [hs, hr, if_neg (by omega), if_neg (by omega), if_pos rfl]

theorem cn_of_le (k : FloatKind) (x : Nat) (h : x % k.format.signWeight ≤ k.format.infRung) : cn k x = some x := by
  unfold cn
  rw [read_isNaN, if_neg]
  simpa using h
theorem le_of_cn {k : FloatKind} {x v : Nat} (h : cn k x = some v) : x % k.format.signWeight ≤ k.format.infRung := by
  unfold cn at h
  rw [read_isNaN] at h
  split at h
  · cases h
  · rename_i h'; simpa using h'

theorem compare_mul (a b : Int) (c : Nat) (hc : 0 < c) : compare (a * c) (b * c) = compare a b := by
  have hc' : (0 : Int) < c := by omega
  rcases Int.lt_trichotomy a b with h | h | h
  · rw [Int.compare_eq_lt.2 h, Int.compare_eq_lt.2 (Int.mul_lt_mul_of_pos_right h hc')]
  · subst h; simp
  · rw [Int.compare_eq_gt.2 h, Int.compare_eq_gt.2 (Int.mul_lt_mul_of_pos_right h hc')]

theorem signed_eq (s : Bool) (m a : Nat) : Ieee.signed s m a = if s then -((m * 2 ^ a : Nat) : Int) else ((m * 2 ^ a : Nat) : Int) := by
  unfold Ieee.signed; simp only [Nat.shiftLeft_eq]

theorem sv_lt_iff (k : FloatKind) (x y : Nat) : sv k x < sv k y ↔ sr k x < sr k y := by
  have hB : 0 < k.format.binade := Nat.two_pow_pos _
  unfold sv sr
  generalize x % k.format.signWeight = r
  generalize y % k.format.signWeight = s
  have h0 := rval_zero k.format.binade hB
  have hr : 0 < r → 0 < rval k.format.binade r := fun h => by have := rval_lt k.format.binade hB h; omega
  have hs : 0 < s → 0 < rval k.format.binade s := fun h => by have := rval_lt k.format.binade hB h; omega
  have hr0 : r = 0 → rval k.format.binade r = 0 := fun h => by rw [h, h0]
  have hs0 : s = 0 → rval k.format.binade s = 0 := fun h => by rw [h, h0]
  have a1 : r < s → rval k.format.binade r < rval k.format.binade s := rval_lt _ hB
  have a2 : s < r → rval k.format.binade s < rval k.format.binade r := rval_lt _ hB
  have a3 : r = s → rval k.format.binade r = rval k.format.binade s := fun h => by rw [h]
  generalize rval k.format.binade r = R at *
  generalize rval k.format.binade s = S at *
  have t := Nat.lt_trichotomy r s
  split <;> split <;> (constructor <;> intro h <;> (by_cases z1 : r = 0 <;> by_cases z2 : s = 0 <;> rcases t with t | t | t <;> simp_all <;> omega))

theorem compare_sv (k : FloatKind) (x y : Nat) : compare (sv k x) (sv k y) = compare (sr k x) (sr k y) := by
  have h1 := sv_lt_iff k x y
  have h2 := sv_lt_iff k y x
  rcases Int.lt_trichotomy (sr k x) (sr k y) with h | h | h
  · rw [Int.compare_eq_lt.2 h, Int.compare_eq_lt.2 (h1.2 h)]
  · have : sv k x = sv k y := by
      have a : ¬ sv k x < sv k y := fun q => by have := h1.1 q; omega
      have b : ¬ sv k y < sv k x := fun q => by have := h2.1 q; omega
      omega
    rw [this, h]; simp
  · rw [Int.compare_eq_gt.2 h, Int.compare_eq_gt.2 (h2.2 h)]

/-- FLOATS COMPARE AS THE INTEGERS THAT NUMBER THEM. -/
theorem order_sr (k : FloatKind) (x y : Nat) (hx : x < 2 * k.format.signWeight) (hy : y < 2 * k.format.signWeight) (cx : cn k x = some x) (cy : cn k y = some y) :
    k.format.order x y = some (compare (sr k x) (sr k y)) := by
  have rx := le_of_cn cx
  have ry := le_of_cn cy
  have hi : 0 < k.format.infRung := by cases k <;> decide
  unfold Ieee.Format.order
  show (k.decode x).order (k.decode y) = _
  rcases Nat.lt_or_eq_of_le rx with rx | rx <;> rcases Nat.lt_or_eq_of_le ry with ry | ry
  · obtain ⟨m, i, ex, li, vx⟩ := read_num k x hx rx
    obtain ⟨n, j, ey, lj, vy⟩ := read_num k y hy ry
    rw [ex, ey]
    simp only [Ieee.Datum.order]
    rw [← compare_sv, ← compare_mul _ _ (2 ^ (min i j - k.format.leastPlace).toNat) (Nat.two_pow_pos _)]
    have key : ∀ (x m : Nat) (i : Int), k.format.leastPlace ≤ min i j → min i j ≤ i ∨ True → m * 2 ^ (i - k.format.leastPlace).toNat = rval k.format.binade (x % k.format.signWeight) → ∀ b : Int, k.format.leastPlace ≤ b → b ≤ i →
        Ieee.signed (sgn k x) m (i - b).toNat * ((2 ^ (b - k.format.leastPlace).toNat : Nat) : Int) = sv k x := by
      intro x m i _ _ hv b hb hbi
      have e : m * 2 ^ (i - b).toNat * 2 ^ (b - k.format.leastPlace).toNat = rval k.format.binade (x % k.format.signWeight) := by
        rw [← hv, Nat.mul_assoc, ← Nat.pow_add]
        congr 2
        omega
      rw [signed_eq]
      unfold sgn sv
      by_cases h : k.format.signWeight ≤ x
      · simp only [h, decide_true, if_true]
        rw [Int.neg_mul, ← Int.natCast_mul, e]
      · simp only [h, decide_false, Bool.false_eq_true, if_false]
        rw [← Int.natCast_mul, e]
    rw [key x m i (by omega) (.inr trivial) vx _ (by omega) (by omega)]
    rw [key y n j (by omega) (.inr trivial) vy _ (by omega) (by omega)]
  · obtain ⟨m, i, ex, li, vx⟩ := read_num k x hx rx
    rw [ex, read_inf k y hy ry]
    simp only [Ieee.Datum.order]
    unfold sr sgn
    rw [ry]
    by_cases h : k.format.signWeight ≤ y
    · simp only [h, decide_true, if_true]
      congr 1; symm; rw [Int.compare_eq_gt]; split <;> omega
    · simp only [h, decide_false, Bool.false_eq_true, if_false]
      congr 1; symm; rw [Int.compare_eq_lt]; split <;> omega
  · obtain ⟨m, i, ey, li, vy⟩ := read_num k y hy ry
    rw [ey, read_inf k x hx rx]
    simp only [Ieee.Datum.order]
    unfold sr sgn
    rw [rx]
    by_cases h : k.format.signWeight ≤ x
    · simp only [h, decide_true, if_true]
      congr 1; symm; rw [Int.compare_eq_lt]; split <;> omega
    · simp only [h, decide_false, Bool.false_eq_true, if_false]
      congr 1; symm; rw [Int.compare_eq_gt]; split <;> omega
  · rw [read_inf k x hx rx, read_inf k y hy ry]
    simp only [Ieee.Datum.order]
    unfold sr sgn
    rw [rx, ry]
    by_cases h : k.format.signWeight ≤ x <;> by_cases h' : k.format.signWeight ≤ y
    · simp [h, h']
    · simp only [h, h', decide_true, decide_false, if_true, if_false]
      rw [Int.compare_eq_lt.2 (show -(k.format.infRung : Int) < k.format.infRung by omega)]; rfl
    · simp only [h, h', decide_true, decide_false, if_true, if_false]
      rw [Int.compare_eq_gt.2 (show -(k.format.infRung : Int) < k.format.infRung by omega)]; rfl
    · simp [h, h']

/-- equal, and of one sign: the same word -/
theorem same_word (k : FloatKind) (x y : Nat) (hx : x < 2 * k.format.signWeight) (hy : y < 2 * k.format.signWeight) (h : sr k x = sr k y) (hs : sgn k x = sgn k y) : x = y := by
  have hp : 0 < k.format.signWeight := Nat.two_pow_pos _
  have split : ∀ z, z < 2 * k.format.signWeight → z = if k.format.signWeight ≤ z then k.format.signWeight + z % k.format.signWeight else z % k.format.signWeight := by
    intro z hz
    split
    · rename_i h
      rw [Nat.mod_eq_sub_mod h, Nat.mod_eq_of_lt (by omega)]; omega
    · exact (Nat.mod_eq_of_lt (by omega)).symm
  have e1 := split x hx
  have e2 := split y hy
  unfold sr at h
  unfold sgn at hs
  rw [decide_eq_decide] at hs
  by_cases c : k.format.signWeight ≤ x
  · have c' := hs.1 c
    rw [if_pos c] at h e1; rw [if_pos c'] at h e2
    omega
  · have c' : ¬ k.format.signWeight ≤ y := fun q => c (hs.2 q)
    rw [if_neg c] at h e1; rw [if_neg c'] at h e2
    omega
end Go.Proofs.YtkemghecglbleaaGreatDoor
/- Plain laws of floating-point numbers: what is representable is written exactly; from 32 bits to 64 and back. No condition. -/
namespace Go.Proofs.YtkemghecglbleaaGreatDoor
set_option maxRecDepth 100000

theorem log2_mul_pow (q a : Nat) (hq : q ≠ 0) : (q * 2 ^ a).log2 = q.log2 + a := by
  have h1 := Nat.log2_self_le hq
  have h2 := log2_lt q
  have hp : 0 < 2 ^ a := Nat.two_pow_pos _
  have hne : q * 2 ^ a ≠ 0 := by
    intro h
    rcases Nat.mul_eq_zero.1 h with h | h
    · exact hq h
    · omega
  have lo : 2 ^ (q.log2 + a) ≤ q * 2 ^ a := by rw [Nat.pow_add]; exact Nat.mul_le_mul_right _ h1
  have hi : q * 2 ^ a < 2 ^ (q.log2 + a + 1) := by
    rw [show q.log2 + a + 1 = (q.log2 + 1) + a by omega, Nat.pow_add]; exact Nat.mul_lt_mul_of_pos_right h2 hp
  have a1 := (Nat.log2_lt hne).2 hi
  have a2 := (Nat.le_log2 hne).2 lo
  omega

theorem cut_exact (neg : Bool) (q d : Nat) (hq : q ≠ 0) : Ieee.Toward.even.cut neg (q * 2 ^ d) d = q := by
  unfold Ieee.Toward.cut
  have hl := log2_mul_pow q d hq
  have hm : min d ((q * 2 ^ d).log2 + 2) = d := by rw [hl]; omega
  have hp : 0 < 2 ^ d := Nat.two_pow_pos _
  simp only [hm, Nat.one_shiftLeft, Nat.mul_div_cancel _ hp, Nat.mul_mod_left]
  have e1 : decide (2 ^ d < 2 * 0) = false := by simp
  have e2 : (2 ^ d == 2 * 0) = false := by rw [beq_eq_false_iff_ne]; omega
  simp [e2]

theorem nearest_of (f : Ieee.Format) (neg : Bool) (m : Nat) (p : Int) (q : Nat) (e : Int) (hq : q ≠ 0)
    (hv : m * 2 ^ (p - min p e).toNat = q * 2 ^ (e - min p e).toNat) (he : f.leastPlace ≤ e) (hlt : q < 2 * f.binade) (hge : f.binade ≤ q ∨ e = f.leastPlace)
    (hfin : (e - f.leastPlace).toNat * f.binade + q ≤ f.infRung) : f.nearest neg m p = f.word neg ((e - f.leastPlace).toNat * f.binade + q) := by
  have hm : m ≠ 0 := by
    intro h
    rw [h, Nat.zero_mul] at hv
    rcases Nat.mul_eq_zero.1 hv.symm with h | h
    · exact hq h
    · have := Nat.two_pow_pos (e - min p e).toNat; omega
  have hl : m.log2 + (p - min p e).toNat = q.log2 + (e - min p e).toNat := by
    rw [← log2_mul_pow m _ hm, ← log2_mul_pow q _ hq, hv]
  have hql : q.log2 ≤ f.fractionBits := by
    have : q < 2 ^ (f.fractionBits + 1) := by rw [Nat.pow_succ]; unfold Ieee.Format.binade at hlt; omega
    exact (log2_le_of_lt this).resolve_left hq
  have hlast : max (p + (m.log2 : Int) - f.fractionBits) f.leastPlace = e := by
    rcases hge with h | h
    · have : f.fractionBits ≤ q.log2 := (Nat.le_log2 hq).2 h
      omega
    · omega
  unfold Ieee.Format.nearest
  dsimp only
  rw [if_neg hm, hlast]
  have hk : Ieee.Toward.even.cut neg (m <<< (p - e).toNat) (e - p).toNat = q := by
    rw [Nat.shiftLeft_eq]
    rcases Int.le_total p e with h | h
    · have e1 : (p - e).toNat = 0 := by omega
      have e2 : min p e = p := by omega
      rw [e2, Int.sub_self, Int.toNat_zero, Nat.pow_zero, Nat.mul_one] at hv
      rw [e1, Nat.pow_zero, Nat.mul_one, hv]
      exact cut_exact neg q _ hq
    · have e1 : (e - p).toNat = 0 := by omega
      have e2 : min p e = e := by omega
      rw [e2, Int.sub_self, Int.toNat_zero, Nat.pow_zero, Nat.mul_one] at hv
      rw [e1, hv]
      have := cut_exact neg q 0 hq
      rwa [Nat.pow_zero, Nat.mul_one] at this
  rw [hk, Nat.min_eq_left hfin]

theorem nearest_zero (f : Ieee.Format) (neg : Bool) (p : Int) : f.nearest neg 0 p = f.word neg 0 := by
  unfold Ieee.Format.nearest; simp

/-- the datum of a rung, and what it is worth: a significand and a place -/
theorem rung_parts (f : Ieee.Format) (r : Nat) (hr : r ≠ 0) : ∃ (q : Nat) (e : Int), q ≠ 0 ∧ f.leastPlace ≤ e ∧ q < 2 * f.binade ∧ (f.binade ≤ q ∨ e = f.leastPlace) ∧
    (e - f.leastPlace).toNat * f.binade + q = r ∧ q * 2 ^ (e - f.leastPlace).toNat = rval f.binade r := by
  have hB : 0 < f.binade := Nat.two_pow_pos _
  by_cases h : r < f.binade
  · refine ⟨r, f.leastPlace, hr, Int.le_refl _, by omega, .inr rfl, by simp, ?_⟩
    unfold rval; rw [if_pos h]; simp
  · have hd : 1 ≤ r / f.binade := (Nat.le_div_iff_mul_le hB).2 (by omega)
    have hm := Nat.mod_lt r hB
    refine ⟨f.binade + r % f.binade, f.leastPlace + (r / f.binade - 1 : Nat), by omega, by omega, by omega, .inl (by omega), ?_, ?_⟩
    · have e1 : (f.leastPlace + ((r / f.binade - 1 : Nat) : Int) - f.leastPlace).toNat = r / f.binade - 1 := by omega
      rw [e1]
      have := Nat.div_add_mod r f.binade
      have e2 : (r / f.binade - 1) * f.binade + f.binade = r / f.binade * f.binade := by
        rw [← Nat.succ_mul]; congr 1; omega
      rw [Nat.mul_comm] at this
      omega
    · have e1 : (f.leastPlace + ((r / f.binade - 1 : Nat) : Int) - f.leastPlace).toNat = r / f.binade - 1 := by omega
      rw [e1]; unfold rval; rw [if_neg h]

/-- WHAT IS REPRESENTABLE IS WRITTEN EXACTLY. -/
theorem nearest_rung (f : Ieee.Format) (neg : Bool) (m : Nat) (p : Int) (r : Nat) (hr : r ≤ f.infRung)
    (hv : m * 2 ^ (p - min p f.leastPlace).toNat = rval f.binade r * 2 ^ (f.leastPlace - min p f.leastPlace).toNat) : f.nearest neg m p = f.word neg r := by
  have hB : 0 < f.binade := Nat.two_pow_pos _
  by_cases h0 : r = 0
  · subst h0
    rw [rval_zero _ hB, Nat.zero_mul] at hv
    rcases Nat.mul_eq_zero.1 hv with h | h
    · subst h; exact nearest_zero f neg p
    · have := Nat.two_pow_pos (p - min p f.leastPlace).toNat; omega
  · obtain ⟨q, e, hq, he, hlt, hge, hsum, hval⟩ := rung_parts f r h0
    have := nearest_of f neg m p q e hq ?_ he hlt hge (by omega)
    · rw [this, hsum]
    · rw [← hval, Nat.mul_assoc, ← Nat.pow_add] at hv
      -- both sides by the same power of two
      rcases Int.le_total p f.leastPlace with h | h
      · rw [show (p - min p e).toNat = (p - min p f.leastPlace).toNat by omega, hv]
        congr 2
        omega
      · have e1 : (p - min p f.leastPlace).toNat = (p - min p e).toNat + (min p e - f.leastPlace).toNat := by omega
        have e2 : (e - f.leastPlace).toNat + (f.leastPlace - min p f.leastPlace).toNat = (e - min p e).toNat + (min p e - f.leastPlace).toNat := by omega
        rw [e1, e2, Nat.pow_add, Nat.pow_add, ← Nat.mul_assoc, ← Nat.mul_assoc] at hv
        exact Nat.eq_of_mul_eq_mul_right (Nat.two_pow_pos _) hv

theorem decode_word (k : FloatKind) (neg : Bool) (r : Nat) (hr : r ≤ k.format.infRung) :
    k.format.word neg r % k.format.signWeight = r ∧ k.format.word neg r < 2 * k.format.signWeight ∧ sgn k (k.format.word neg r) = neg := by
  have hs := k.format.infRung_lt
  unfold sgn Ieee.Format.word
  cases neg
  · simp; exact ⟨Nat.mod_eq_of_lt (by omega), by omega, by omega⟩
  · simp; exact ⟨Nat.mod_eq_of_lt (by omega), by omega⟩

/-! from 32 bits to 64 -/
/-- a power of two, kept from being reckoned -/
def tp (n : Nat) : Nat := 2 ^ n
theorem tp_pos (n : Nat) : 0 < tp n := Nat.two_pow_pos n

theorem tp_add (a b c d e : Nat) (h : a + b + c = d + e) : tp a * 2 ^ b * 2 ^ c = 2 ^ d * tp e := by
  unfold tp
  rw [← Nat.pow_add, ← Nat.pow_add, ← Nat.pow_add, h]

theorem rval_up (r : Nat) (h : r < FloatKind.f32.format.infRung) (n : Nat) (hn : n = 925) : ∃ R, R < FloatKind.f64.format.infRung ∧ rval FloatKind.f64.format.binade R = rval FloatKind.f32.format.binade r * tp n := by
  rw [f32_inf] at h
  rw [f64_inf, f32_bin, f64_bin]
  have hb : (0 : Nat) < 4503599627370496 := by omega
  by_cases h0 : r = 0
  · subst h0
    exact ⟨0, by omega, by rw [rval_zero _ hb, rval_zero _ (by omega), Nat.zero_mul]⟩
  have key : ∀ (q d : Nat), 8388608 ≤ q → q < 16777216 → d ≤ 253 → ∀ s, s ≤ 23 → ∀ t, q * 2 ^ d = t * 2 ^ s → ∃ R, R < 9218868437227405312 ∧ rval 4503599627370496 R = t * tp n := by
    intro q d h1 h2 h3 s h4 t h5
    refine ⟨(d + 897 - s) * 4503599627370496 + (q * 536870912 - 4503599627370496), by omega, ?_⟩
    have hq : q * 536870912 - 4503599627370496 < 4503599627370496 := by omega
    have e1 : ((d + 897 - s) * 4503599627370496 + (q * 536870912 - 4503599627370496)) % 4503599627370496 = q * 536870912 - 4503599627370496 := by
      rw [Nat.mul_comm, Nat.mul_add_mod, Nat.mod_eq_of_lt hq]
    have e2 : ((d + 897 - s) * 4503599627370496 + (q * 536870912 - 4503599627370496)) / 4503599627370496 = d + 897 - s := by
      rw [Nat.mul_comm, Nat.mul_add_div hb, Nat.div_eq_of_lt hq, Nat.add_zero]
    unfold rval
    rw [if_neg (by omega), e1, e2]
    rw [show 4503599627370496 + (q * 536870912 - 4503599627370496) = q * tp 29 by unfold tp; omega]
    have : q * tp 29 * 2 ^ (d + 897 - s - 1) * 2 ^ s = t * tp n * 2 ^ s := by
      have e3 : tp 29 * 2 ^ (d + 897 - s - 1) * 2 ^ s = 2 ^ d * tp n := by
        have := tp_add 29 (d + 897 - s - 1) s d n (by omega)
        exact this
      rw [Nat.mul_assoc q, Nat.mul_assoc q, e3, ← Nat.mul_assoc, h5, Nat.mul_assoc, Nat.mul_assoc, Nat.mul_comm (2 ^ s)]
    exact Nat.eq_of_mul_eq_mul_right (Nat.two_pow_pos _) this
  by_cases hlt : r < 8388608
  · -- subnormal: brought up to a full significand
    have hl1 := Nat.log2_self_le h0
    have hl2 := log2_lt r
    have hl3 : r.log2 ≤ 22 := (log2_le_of_lt (show r < 2 ^ (22 + 1) by omega)).resolve_left h0
    obtain ⟨R, hR, hv⟩ := key (r * 2 ^ (23 - r.log2)) 0 (by
        have := Nat.mul_le_mul_right (2 ^ (23 - r.log2)) hl1
        rw [← Nat.pow_add, show r.log2 + (23 - r.log2) = 23 by omega] at this
        exact this) (by
        have := Nat.mul_lt_mul_of_pos_right hl2 (Nat.two_pow_pos (23 - r.log2))
        rw [← Nat.pow_add, show r.log2 + 1 + (23 - r.log2) = 24 by omega] at this
        exact this) (by omega) (23 - r.log2) (by omega) r (by simp)
    refine ⟨R, hR, ?_⟩
    rw [hv]
    congr 1
    unfold rval; rw [if_pos hlt]
  · have hd : r / 8388608 ≤ 254 := by omega
    obtain ⟨R, hR, hv⟩ := key (8388608 + r % 8388608) (r / 8388608 - 1) (by omega) (by omega) (by omega) 0 (by omega) ((8388608 + r % 8388608) * 2 ^ (r / 8388608 - 1)) (by simp)
    refine ⟨R, hR, ?_⟩
    rw [hv]
    congr 1
    unfold rval; rw [if_neg hlt]

/-- A 32-BIT NUMBER IN 64 BITS: the same value, the same sign. -/
theorem up_spec (x : Nat) (hx : x < 4294967296) (cx : cn .f32 x = some x) : ∃ X, cconv .f32 .f64 (some x) = some X ∧ X < 18446744073709551616 ∧ cn .f64 X = some X ∧ sgn .f64 X = sgn .f32 x ∧
    (x % 2147483648 < 2139095040 → X % 9223372036854775808 < 9218868437227405312 ∧ rval 4503599627370496 (X % 9223372036854775808) = rval 8388608 (x % 2147483648) * tp 925) ∧
    (x % 2147483648 = 2139095040 → X % 9223372036854775808 = 9218868437227405312) := by
  have hx' : x < 2 * FloatKind.f32.format.signWeight := by rw [f32_sign]; omega
  have hle := le_of_cn cx
  rcases Nat.lt_or_eq_of_le hle with hlt | heq
  · obtain ⟨m, e, hd, hle', hv⟩ := read_num .f32 x hx' hlt
    obtain ⟨n, hn⟩ : ∃ n, n = 925 := ⟨_, rfl⟩
    obtain ⟨R, hR, hRv⟩ := rval_up _ hlt n hn
    have hnr := nearest_rung FloatKind.f64.format (sgn .f32 x) m e R (by omega) (by
      rw [f32_least] at hle' hv
      rw [f64_least, hRv, ← hv, show min e (-1074) = -1074 by omega]
      have e0 : ((-1074 : Int) - -1074).toNat = 0 := by omega
      rw [e0, Nat.pow_zero, Nat.mul_one, Nat.mul_assoc]
      unfold tp
      rw [← Nat.pow_add]
      congr 2
      omega)
    obtain ⟨w1, w2, w3⟩ := decode_word .f64 (sgn .f32 x) R (by omega)
    refine ⟨FloatKind.f64.format.word (sgn .f32 x) R, ?_, ?_, ?_, w3, ?_, ?_⟩
    · simp only [cconv, hd]
      exact congrArg some hnr
    · rw [f64_sign] at w2; omega
    · exact cn_of_le _ _ (by rw [w1]; omega)
    · intro _
      rw [f64_sign] at w1
      rw [w1]
      rw [f64_inf] at hR
      rw [f32_bin, f64_bin, f32_sign, hn] at hRv
      exact ⟨hR, hRv⟩
    · intro h
      rw [f32_sign, f32_inf] at hlt
      omega
  · have hd := read_inf .f32 x hx' heq
    obtain ⟨w1, w2, w3⟩ := decode_word .f64 (sgn .f32 x) FloatKind.f64.format.infRung (Nat.le_refl _)
    refine ⟨FloatKind.f64.format.word (sgn .f32 x) FloatKind.f64.format.infRung, ?_, ?_, ?_, w3, ?_, ?_⟩
    · simp only [cconv, hd]; rfl
    · rw [f64_sign] at w2; omega
    · exact cn_of_le _ _ (by rw [w1]; omega)
    · intro h
      rw [f32_sign, f32_inf] at heq
      omega
    · intro _
      rw [f64_sign, f64_inf] at w1
      exact w1
end Go.Proofs.YtkemghecglbleaaGreatDoor
/- Plain laws of floating-point numbers: how 32-bit numbers compare in 64 bits, and that they are narrowed back to what they were. No condition. -/
namespace Go.Proofs.YtkemghecglbleaaGreatDoor
set_option maxRecDepth 100000

theorem rval_lt_iff (B : Nat) (hB : 0 < B) (r s : Nat) : rval B r < rval B s ↔ r < s := by
  constructor
  · intro h
    rcases Nat.lt_trichotomy r s with t | t | t
    · exact t
    · subst t; omega
    · have := rval_lt B hB t; omega
  · exact rval_lt B hB

theorem cn_or32 {x v : Nat} (h : cn .f32 x = some v) : x % 2147483648 < 2139095040 ∨ x % 2147483648 = 2139095040 := by
  have := le_of_cn h
  rw [f32_sign, f32_inf] at this
  omega

theorem up_mono {x y X Y : Nat} (hx : x < 4294967296) (hy : y < 4294967296) (cx : cn .f32 x = some x) (cy : cn .f32 y = some y) (ex : cconv .f32 .f64 (some x) = some X) (ey : cconv .f32 .f64 (some y) = some Y) :
    X % 9223372036854775808 < Y % 9223372036854775808 ↔ x % 2147483648 < y % 2147483648 := by
  obtain ⟨X', eX, _, _, _, fx, ix⟩ := up_spec x hx cx
  obtain ⟨Y', eY, _, _, _, fy, iy⟩ := up_spec y hy cy
  rw [ex] at eX; cases eX
  rw [ey] at eY; cases eY
  rcases cn_or32 cx with a | a <;> rcases cn_or32 cy with b | b
  · obtain ⟨a1, a2⟩ := fx a
    obtain ⟨b1, b2⟩ := fy b
    have hp := tp_pos 925
    rw [← rval_lt_iff 4503599627370496 (by omega), a2, b2, ← rval_lt_iff 8388608 (by omega) (x % 2147483648) (y % 2147483648)]
    generalize tp 925 = T at hp
    exact Nat.mul_lt_mul_right hp
  · have := (fx a).1; have := iy b; omega
  · have := ix a; have := (fy b).1; omega
  · have := ix a; have := iy b; omega

theorem compare_mono (a b A B : Nat) (s t : Bool) (h1 : A < B ↔ a < b) (h2 : B < A ↔ b < a) (h3 : 0 < A ↔ 0 < a) (h4 : 0 < B ↔ 0 < b) :
    compare (if s then -(A : Int) else (A : Int)) (if t then -(B : Int) else (B : Int)) = compare (if s then -(a : Int) else (a : Int)) (if t then -(b : Int) else (b : Int)) := by
  have key : ∀ (p q P Q : Int), (P < Q ↔ p < q) → (Q < P ↔ q < p) → compare P Q = compare p q := by
    intro p q P Q h h'
    rcases Int.lt_trichotomy p q with c | c | c
    · rw [Int.compare_eq_lt.2 c, Int.compare_eq_lt.2 (h.2 c)]
    · have : P = Q := by
        have a : ¬ P < Q := fun z => by have := h.1 z; omega
        have b : ¬ Q < P := fun z => by have := h'.1 z; omega
        omega
      rw [this, c]; simp
    · rw [Int.compare_eq_gt.2 c, Int.compare_eq_gt.2 (h'.2 c)]
  cases s <;> cases t <;> simp only [if_true, if_false, Bool.false_eq_true] <;> refine key _ _ _ _ ?_ ?_ <;> omega

theorem sr_eq (k : FloatKind) (x : Nat) : sr k x = if sgn k x then -((x % k.format.signWeight : Nat) : Int) else ((x % k.format.signWeight : Nat) : Int) := by
  unfold sr sgn
  by_cases h : k.format.signWeight ≤ x <;> simp [h]

/-- 32-BIT NUMBERS COMPARE IN 64 BITS AS THEY DO IN 32. -/
theorem up_order {x y X Y : Nat} (hx : x < 4294967296) (hy : y < 4294967296) (cx : cn .f32 x = some x) (cy : cn .f32 y = some y) (ex : cconv .f32 .f64 (some x) = some X) (ey : cconv .f32 .f64 (some y) = some Y) :
    FloatKind.f64.format.order X Y = FloatKind.f32.format.order x y := by
  obtain ⟨X', eX, lX, cX, sX, _, _⟩ := up_spec x hx cx
  obtain ⟨Y', eY, lY, cY, sY, _, _⟩ := up_spec y hy cy
  rw [ex] at eX; cases eX
  rw [ey] at eY; cases eY
  rw [order_sr .f64 X Y (by rw [f64_sign]; omega) (by rw [f64_sign]; omega) cX cY, order_sr .f32 x y (by rw [f32_sign]; omega) (by rw [f32_sign]; omega) cx cy]
  rw [sr_eq .f64 X, sr_eq .f64 Y, sr_eq .f32 x, sr_eq .f32 y, sX, sY, f64_sign, f32_sign]
  have z : cconv .f32 .f64 (some 0) = some 0 := by decide
  have z1 := up_mono (x := 0) (y := x) (by omega) hx cn_zero32 cx z ex
  have z2 := up_mono (x := 0) (y := y) (by omega) hy cn_zero32 cy z ey
  congr 1
  exact compare_mono _ _ _ _ _ _ (up_mono hx hy cx cy ex ey) (up_mono hy hx cy cx ey ex) (by simpa using z1) (by simpa using z2)

theorem up_cord {c d : Option Nat} (hc : ∀ x, c = some x → x < 4294967296 ∧ cn .f32 x = some x) (hd : ∀ x, d = some x → x < 4294967296 ∧ cn .f32 x = some x) :
    cord .f64 (cconv .f32 .f64 c) (cconv .f32 .f64 d) = cord .f32 c d := by
  cases c with
  | none => rfl
  | some x =>
    cases d with
    | none => obtain ⟨X, e, _⟩ := up_spec x (hc x rfl).1 (hc x rfl).2; rw [e]; rfl
    | some y =>
      obtain ⟨hx, cx⟩ := hc x rfl
      obtain ⟨hy, cy⟩ := hd y rfl
      obtain ⟨X, ex, _⟩ := up_spec x hx cx
      obtain ⟨Y, ey, _⟩ := up_spec y hy cy
      rw [ex, ey]
      exact up_order hx hy cx cy ex ey

/-- BACK FROM 64 BITS. -/
theorem down_up (x : Nat) (hx : x < 4294967296) (cx : cn .f32 x = some x) : cconv .f64 .f32 (cconv .f32 .f64 (some x)) = some x ∧ Fits .f64 .f32 (cconv .f32 .f64 (some x)) := by
  obtain ⟨X, eX, lX, cX, sX, fx, ix⟩ := up_spec x hx cx
  have hx' : x < 2 * FloatKind.f32.format.signWeight := by rw [f32_sign]; omega
  have lX' : X < 2 * FloatKind.f64.format.signWeight := by rw [f64_sign]; omega
  have back : FloatKind.f32.format.word (sgn .f32 x) (x % 2147483648) = x := by
    obtain ⟨w1, w2, w3⟩ := decode_word .f32 (sgn .f32 x) (x % 2147483648) (by rw [f32_inf]; have := cn_or32 cx; omega)
    refine same_word .f32 _ _ w2 hx' ?_ w3
    rw [sr_eq, sr_eq, w3, w1, f32_sign]
  rw [eX]
  rcases cn_or32 cx with a | a
  · obtain ⟨a1, a2⟩ := fx a
    obtain ⟨m, e, hd, hle, hv⟩ := read_num .f64 X lX' (by rw [f64_sign, f64_inf]; exact a1)
    have hw : FloatKind.f32.format.nearest (sgn .f64 X) m e = x := by
      rw [← back, sX]
      refine nearest_rung FloatKind.f32.format _ m e _ (by have := f32_inf; omega) ?_
      rw [f64_least, f64_bin, f64_sign, a2] at hv
      rw [f64_least] at hle
      rw [f32_least]
      obtain ⟨n, hn⟩ : ∃ n, n = 925 := ⟨_, rfl⟩
      rw [← hn] at hv
      have hB : FloatKind.f32.format.binade = 8388608 := f32_bin
      rw [hB]
      rcases Int.le_total e (-149) with h | h
      · rw [show min e (-149) = e by omega, Int.sub_self, Int.toNat_zero, Nat.pow_zero, Nat.mul_one]
        have e1 : n = (-149 - e).toNat + (e - -1074).toNat := by omega
        have e2 : tp n = 2 ^ (-149 - e).toNat * 2 ^ (e - -1074).toNat := by unfold tp; rw [e1, Nat.pow_add]
        rw [e2, ← Nat.mul_assoc] at hv
        exact Nat.eq_of_mul_eq_mul_right (Nat.two_pow_pos _) hv
      · rw [show min e (-149) = -149 by omega, Int.sub_self, Int.toNat_zero, Nat.pow_zero, Nat.mul_one]
        have e1 : (e - -1074).toNat = (e - -149).toNat + n := by omega
        have e2 : 2 ^ (e - -1074).toNat = 2 ^ (e - -149).toNat * tp n := by unfold tp; rw [e1, Nat.pow_add]
        rw [e2, ← Nat.mul_assoc] at hv
        exact Nat.eq_of_mul_eq_mul_right (tp_pos _) hv
    refine ⟨?_, ?_⟩
    · simp only [cconv, hd]; exact congrArg some hw
    · intro g m' e' hd'
      rw [hd] at hd'
      cases hd'
      have hw' : FloatKind.f32.encode (.number (sgn .f64 X) m e) = x := hw
      rw [hw']
      obtain ⟨m2, e2, hd2, _⟩ := read_num .f32 x hx' (by rw [f32_sign, f32_inf]; exact a)
      rw [hd2]; rfl
  · have hd := read_inf .f64 X lX' (by rw [f64_sign, f64_inf]; exact ix a)
    refine ⟨?_, ?_⟩
    · simp only [cconv, hd, sX]
      rw [a] at back
      exact congrArg some back
    · intro g m' e' hd'
      rw [hd] at hd'; cases hd'
end Go.Proofs.YtkemghecglbleaaGreatDoor
/- The float operations of this program, as the walk meets them. No condition. -/
namespace Go.Proofs.YtkemghecglbleaaGreatDoor
set_option maxRecDepth 100000
section
variable (w : World) {o : Oper} {a : Act} {K : Act → World → Prop} {Q : Exit → Act → World → Prop}
theorem up_fl (op : BinOp) (hop : op = .add ∨ op = .sub ∨ op = .mul ∨ op = .quo) (t : TypeId) (k : FloatKind) (x y : Nat)
    (h : ∀ r n, FE k r (cop op k (cn k x) (cn k y)) → K (a.put o.dst (.float k r)) (w.drewN n)) :
    o.upon Tryz.prog a K Q ((Sem.run Tryz.prog (binOp op t (.float k x) (.float k y)) w).andThen fun v w' => .ok (.value v) w') := upon_fl w op hop t k x y h
theorem up_add (t : TypeId) (k : FloatKind) (x y : Nat) (h : ∀ r n, FE k r (cop .add k (cn k x) (cn k y)) → K (a.put o.dst (.float k r)) (w.drewN n)) :
    o.upon Tryz.prog a K Q ((Sem.run Tryz.prog (binOp .add t (.float k x) (.float k y)) w).andThen fun v w' => .ok (.value v) w') := up_fl w .add (by simp) t k x y h
theorem up_sub (t : TypeId) (k : FloatKind) (x y : Nat) (h : ∀ r n, FE k r (cop .sub k (cn k x) (cn k y)) → K (a.put o.dst (.float k r)) (w.drewN n)) :
    o.upon Tryz.prog a K Q ((Sem.run Tryz.prog (binOp .sub t (.float k x) (.float k y)) w).andThen fun v w' => .ok (.value v) w') := up_fl w .sub (by simp) t k x y h
theorem up_mul (t : TypeId) (k : FloatKind) (x y : Nat) (h : ∀ r n, FE k r (cop .mul k (cn k x) (cn k y)) → K (a.put o.dst (.float k r)) (w.drewN n)) :
    o.upon Tryz.prog a K Q ((Sem.run Tryz.prog (binOp .mul t (.float k x) (.float k y)) w).andThen fun v w' => .ok (.value v) w') := up_fl w .mul (by simp) t k x y h
theorem up_quo (t : TypeId) (k : FloatKind) (x y : Nat) (h : ∀ r n, FE k r (cop .quo k (cn k x) (cn k y)) → K (a.put o.dst (.float k r)) (w.drewN n)) :
    o.upon Tryz.prog a K Q ((Sem.run Tryz.prog (binOp .quo t (.float k x) (.float k y)) w).andThen fun v w' => .ok (.value v) w') := up_fl w .quo (by simp) t k x y h
theorem up_up (x : Nat) (h : ∀ r n, FE .f64 r (cconv .f32 .f64 (cn .f32 x)) → K (a.put o.dst (.float .f64 r)) (w.drewN n)) :
    o.upon Tryz.prog a K Q ((Sem.run Tryz.prog (convert 28 46 (.float .f32 x)) w).andThen fun v w' => .ok (.value v) w') := by
  obtain ⟨r, n, hr, hc⟩ := run_conv Tryz.prog w 28 46 .f32 .f64 (by decide) x (by rw [Tryz.underlying28]; rfl) Tryz.underlying46 (fits_up (cn .f32 x))
  rw [hr]
  exact h r n hc
theorem up_down (x : Nat) (hf : Fits .f64 .f32 (cn .f64 x)) (h : ∀ r n, FE .f32 r (cconv .f64 .f32 (cn .f64 x)) → K (a.put o.dst (.float .f32 r)) (w.drewN n)) :
    o.upon Tryz.prog a K Q ((Sem.run Tryz.prog (convert 46 28 (.float .f64 x)) w).andThen fun v w' => .ok (.value v) w') := by
  obtain ⟨r, n, hr, hc⟩ := run_conv Tryz.prog w 46 28 .f64 .f32 (by decide) x (by rw [Tryz.underlying46]; rfl) Tryz.underlying28 hf
  rw [hr]
  exact h r n hc
end
end Go.Proofs.YtkemghecglbleaaGreatDoor
/- What the plain float functions of both sides give, up to which not-a-number it is. -/
namespace Go.Proofs.YtkemghecglbleaaGreatDoor
set_option maxRecDepth 100000
open Go.RowKit

def isFin (c : Option Nat) : Bool := cord .f32 (cop .sub .f32 c c) (some 0) == some .eq

set_option maxHeartbeats 400000 in
theorem impl_IsFinite (x : Nat) (w : World) :
    Calls Tryz.prog 66 #[.float .f32 x] w (RetV (.bool (isFin (cn .f32 x))) w) := by
  go_enter Tryz.func66, Tryz.ntmps66
  go_wp2_with (((first | with_reducible refine up_add _ _ _ _ _ ?_ | with_reducible refine up_sub _ _ _ _ _ ?_ | with_reducible refine up_mul _ _ _ _ _ ?_ | with_reducible refine up_quo _ _ _ _ _ ?_)); intro r nd hr)
  go_ret
  refine RetV.mk ?_
  simp [order_cord, hr.out, isFin, cn_zero32]

set_option maxHeartbeats 400000 in
theorem spec_l01Finite (x : Nat) (w : World) :
    Calls Tryz.prog 50 #[.float .f32 x] w (RetV (.bool (isFin (cn .f32 x))) w) := by
  go_enter Tryz.func50, Tryz.ntmps50
  go_wp2_with (((first | with_reducible refine up_add _ _ _ _ _ ?_ | with_reducible refine up_sub _ _ _ _ _ ?_ | with_reducible refine up_mul _ _ _ _ _ ?_ | with_reducible refine up_quo _ _ _ _ _ ?_)); intro r nd hr)
  go_ret
  refine RetV.mk ?_
  simp [order_cord, hr.out, isFin, cn_zero32]

set_option maxHeartbeats 400000 in
theorem spec_IsFinite (x : Nat) (w : World) :
    Calls Tryz.prog 26 #[.float .f32 x] w (RetV (.bool (isFin (cn .f32 x))) w) := by
  go_enter Tryz.func26, Tryz.ntmps26
  go_wp2_with (go_at_call 50; refine (spec_l01Finite _ _).mono ?_; rintro _ _ ⟨nd, rfl, rfl⟩)
  go_ret
  exact RetV.mk rfl

/-! bits -/
theorem ext_f32bits (x : Nat) (w : World) : (callFunc 44 #[.float .f32 x]).run Tryz.prog w = .ok (.value (.int .u32 x)) w := by kernel_rfl
theorem ext_f32from (x : Int) (w : World) : (callFunc 43 #[.int .u32 x]).run Tryz.prog w = .ok (.value (.float .f32 x.toNat)) w := by kernel_rfl
theorem ext_f64bits (x : Nat) (w : World) : (callFunc 77 #[.float .f64 x]).run Tryz.prog w = .ok (.value (.int .u64 x)) w := by kernel_rfl
/-- the bits of a 32-bit number, told as the program tells them -/
def bitsC : Option Nat → Nat
  | some v => v
  | none => 2143289344

theorem neq_self_nan {k : FloatKind} {x : Nat} (h : cn k x = none) : (k.format.order x x != some .eq) = true := by rw [order_none_left h]; rfl
theorem neq_self_num {k : FloatKind} {x : Nat} (h : cn k x = some x) : (k.format.order x x != some .eq) = false := by rw [order_self h]; rfl
theorem eql_self_num {k : FloatKind} {x : Nat} (h : cn k x = some x) : (k.format.order x x == some .eq) = true := by rw [order_self h]; rfl

set_option maxHeartbeats 400000 in
theorem spec_l01Bits (x : Nat) (hx : x < 4294967296) (w : World) :
    Calls Tryz.prog 52 #[.float .f32 x] w (RetV (.int .i64 (bitsC (cn .f32 x))) w) := by
  have e := ext_f32bits
  rcases cn_cases .f32 x with h | h
  · have h1 := neq_self_nan h
    rw [h]
    have hb : RowKit.Hid (cn .f32 x = none) := h
    clear h
    go_enter Tryz.func52, Tryz.ntmps52
    go_wp2
    go_ret
    exact RetV.mk0 rfl
  · have h1 := neq_self_num h
    rw [h]
    clear h
    go_enter Tryz.func52, Tryz.ntmps52
    go_wp2
    go_ret
    exact RetV.mk0 rfl

set_option maxHeartbeats 400000 in
theorem impl_BitsOf (x : Nat) (hx : x < 4294967296) (w : World) :
    Calls Tryz.prog 20 #[.float .f32 x] w (RetV (.int .i64 (bitsC (cn .f32 x))) w) := by
  have e := ext_f32bits
  rcases cn_cases .f32 x with h | h
  · have h1 := neq_self_nan h
    rw [h]
    clear h
    go_enter Tryz.func20, Tryz.ntmps20
    go_wp2
    go_ret
    exact RetV.mk0 rfl
  · have h1 := neq_self_num h
    rw [h]
    clear h
    go_enter Tryz.func20, Tryz.ntmps20
    go_wp2
    go_ret
    exact RetV.mk0 rfl

/-! the statements' own comparison of two numbers -/
theorem and_low (x n : Nat) : x &&& (2 ^ n - 1) = x % 2 ^ n := Nat.and_two_pow_sub_one_eq_mod x n
theorem u64_clear (x : Nat) (hx : x < 18446744073709551616) : bits .andNot .u64 (x : Int) 9223372036854775808 = ((x % 9223372036854775808 : Nat) : Int) := by
  have h := u64_andNot_nat x 9223372036854775808 hx (by omega)
  have h2 := and_low x 63
  simp only [Nat.reducePow, Nat.reduceSub] at h h2
  rw [h2] at h
  exact h

set_option maxHeartbeats 400000 in
theorem math_Signbit (x : Nat) (hx : x < 18446744073709551616) (w : World) :
    Calls Tryz.prog 63 #[.float .f64 x] w (RetV (.bool (decide (9223372036854775808 ≤ x))) w) := by
  have e := ext_f64bits
  go_enter Tryz.func63, Tryz.ntmps63
  go_wp2
  go_ret
  refine RetV.mk0 ?_
  show Value.bool (decide (wrap64 (x : Int) < 0)) = _
  congr 1
  unfold wrap64
  rw [decide_eq_decide]
  omega

/-! the parts of a word -/
theorem word_lt64 (neg : Bool) (r : Nat) (h : r ≤ FloatKind.f64.format.infRung) : FloatKind.f64.format.word neg r < 18446744073709551616 := by
  have := FloatKind.f64.format.word_lt neg (show r < FloatKind.f64.format.signWeight by have := FloatKind.f64.format.infRung_lt; omega)
  exact this
theorem word_sign (k : FloatKind) (neg : Bool) (r : Nat) (h : r ≤ k.format.infRung) : decide (k.format.signWeight ≤ k.format.word neg r) = neg := by
  have := k.format.infRung_lt
  unfold Ieee.Format.word
  cases neg <;> simp <;> omega

/-- a word is its sign and its rung -/
theorem word_split (k : FloatKind) (x : Nat) (hx : x < 2 * k.format.signWeight) : x = k.format.word (decide (k.format.signWeight ≤ x)) (x % k.format.signWeight) := by
  unfold Ieee.Format.word
  by_cases h : k.format.signWeight ≤ x
  · simp only [h, decide_true, if_true]
    have : x % k.format.signWeight = x - k.format.signWeight := by
      rw [Nat.mod_eq_sub_mod h, Nat.mod_eq_of_lt (by omega)]
    omega
  · simp only [h, decide_false, Bool.false_eq_true, if_false]
    exact (Nat.mod_eq_of_lt (by omega)).symm

theorem decode_neg (k : FloatKind) (x : Nat) (hx : x < 2 * k.format.signWeight) : (k.decode x).neg = decide (k.format.signWeight ≤ x) := by
  have hp : 0 < k.format.signWeight := Nat.two_pow_pos _
  have e : (x / k.format.signWeight % 2 == 1) = decide (k.format.signWeight ≤ x) := by
    by_cases h : k.format.signWeight ≤ x
    · have h1 : x / k.format.signWeight = 1 := Nat.div_eq_of_lt_le (by omega) (by omega)
      simp [h, h1]
    · have h1 : x / k.format.signWeight = 0 := Nat.div_eq_of_lt (by omega)
      simp [h, h1]
  unfold FloatKind.decode Ieee.Format.read
  dsimp only
  rw [e]
  split
  · rfl
  · split
    · rfl
    · split <;> rfl
end Go.Proofs.YtkemghecglbleaaGreatDoor
/- What SameNumber, IsSubnormal and FromBits give on both sides. -/
namespace Go.Proofs.YtkemghecglbleaaGreatDoor
set_option maxRecDepth 100000
open Go.RowKit

theorem bitsC_same {a b : Nat} : (bitsC (cn .f32 a) = bitsC (cn .f32 b)) ↔ cn .f32 a = cn .f32 b := by
  have key : ∀ x, cn .f32 x = some x → x ≠ 2143289344 := by
    intro x h e
    subst e
    have := le_of_cn h
    rw [f32_sign, f32_inf] at this
    omega
  rcases cn_cases .f32 a with ha | ha <;> rcases cn_cases .f32 b with hb | hb <;> rw [ha, hb] <;> simp only [bitsC]
  · have := key b hb
    simp; omega
  · have := key a ha
    simp; omega
  · simp

/-- equal, with one sign: the same number -/
theorem same_num {a b A B : Nat} (ha : a < 4294967296) (hb : b < 4294967296) (ca : cn .f32 a = some a) (cb : cn .f32 b = some b) (eA : cconv .f32 .f64 (some a) = some A) (eB : cconv .f32 .f64 (some b) = some B) :
    ((FloatKind.f32.format.order a b == some .eq) && (decide (9223372036854775808 ≤ A) == decide (9223372036854775808 ≤ B))) = decide (a = b) := by
  obtain ⟨_, e1, _, _, sA, _, _⟩ := up_spec a ha ca
  obtain ⟨_, e2, _, _, sB, _, _⟩ := up_spec b hb cb
  rw [eA] at e1; cases e1
  rw [eB] at e2; cases e2
  unfold sgn at sA sB
  rw [f64_sign] at sA sB
  rw [sA, sB, order_sr .f32 a b (by rw [f32_sign]; omega) (by rw [f32_sign]; omega) ca cb]
  by_cases h : a = b
  · subst h; simp
  · simp only [h, decide_false]
    by_cases hs : sr .f32 a = sr .f32 b
    · have hn : sgn .f32 a ≠ sgn .f32 b := fun q => h (same_word .f32 a b (by rw [f32_sign]; omega) (by rw [f32_sign]; omega) hs q)
      unfold sgn at hn
      have : (decide (FloatKind.f32.format.signWeight ≤ a) == decide (FloatKind.f32.format.signWeight ≤ b)) = false := by simpa using hn
      rw [this]; simp
    · have : (some (compare (sr .f32 a) (sr .f32 b)) == some Ordering.eq) = false := by
        have : compare (sr .f32 a) (sr .f32 b) ≠ .eq := fun q => hs (Int.compare_eq_eq.1 q)
        simpa using this
      rw [this]; simp

set_option maxHeartbeats 400000 in
theorem spec_l01Same (a b : Nat) (ha : a < 4294967296) (hb : b < 4294967296) (w : World) :
    Calls Tryz.prog 31 #[.float .f32 a, .float .f32 b] w (RetV (.bool (decide (cn .f32 a = cn .f32 b))) w) := by
  go_enter Tryz.func31, Tryz.ntmps31
  go_wp2_with (go_at_call 52; refine (spec_l01Bits _ (by assumption) _).mono ?_; rintro _ _ ⟨nd, rfl, rfl⟩)
  go_ret
  refine RetV.mk ?_
  have h := @bitsC_same a b
  show Value.bool ((bitsC (cn .f32 a) : Int) == (bitsC (cn .f32 b) : Int)) = _
  by_cases e : cn .f32 a = cn .f32 b
  · simp [e]
  · have : bitsC (cn .f32 a) ≠ bitsC (cn .f32 b) := fun q => e (h.1 q)
    simp [e]; omega

set_option maxHeartbeats 400000 in
theorem spec_SameNumber (a b : Nat) (ha : a < 4294967296) (hb : b < 4294967296) (w : World) :
    Calls Tryz.prog 9 #[.float .f32 a, .float .f32 b] w (RetV (.bool (decide (cn .f32 a = cn .f32 b))) w) := by
  go_enter Tryz.func9, Tryz.ntmps9
  go_wp2_with (go_at_call 31; refine (spec_l01Same a b ha hb _).mono ?_; rintro _ _ ⟨nd, rfl, rfl⟩)
  go_ret
  exact RetV.mk rfl

set_option maxHeartbeats 400000 in
theorem impl_SameNumber (a b : Nat) (ha : a < 4294967296) (hb : b < 4294967296) (w : World) :
    Calls Tryz.prog 48 #[.float .f32 a, .float .f32 b] w (RetV (.bool (decide (cn .f32 a = cn .f32 b))) w) := by
  rcases cn_cases .f32 a with ca | ca
  · have h1 := neq_self_nan ca
    rcases cn_cases .f32 b with cb | cb
    · have h2 := neq_self_nan cb
      rw [ca, cb]; clear ca cb
      go_enter Tryz.func48, Tryz.ntmps48
      go_wp2
      go_ret
      exact RetV.mk0 rfl
    · have h2 := neq_self_num cb
      rw [ca, cb]; clear ca cb
      go_enter Tryz.func48, Tryz.ntmps48
      go_wp2
      go_ret
      exact RetV.mk0 rfl
  · have h1 := neq_self_num ca
    rcases cn_cases .f32 b with cb | cb
    · have h2 := neq_self_nan cb
      rw [ca, cb]; clear ca cb
      go_enter Tryz.func48, Tryz.ntmps48
      go_wp2
      go_ret
      exact RetV.mk0 rfl
    · have h2 := neq_self_num cb
      have HA : Hid (cn .f32 a = some a) := ca
      have HB : Hid (cn .f32 b = some b) := cb
      rw [ca, cb]; clear ca cb
      by_cases he : (FloatKind.f32.format.order a b == some .eq) = true
      · go_enter Tryz.func48, Tryz.ntmps48
        go_wp2_with (first | ((with_reducible refine up_up _ _ ?_); intro r nd hr) | (go_at_call 63; refine (math_Signbit _ (by have := hr.lt; rw [f64_sign] at this; omega) _).mono ?_; rintro _ _ ⟨nd, rfl, rfl⟩))
        go_ret
        refine RetV.mk ?_
        go_tidy
        obtain ⟨A, eA, lA, kA, _⟩ := up_spec a ha HA.out
        obtain ⟨B, eB, lB, kB, _⟩ := up_spec b hb HB.out
        have key := same_num ha hb HA.out HB.out eA eB
        rw [he, Bool.true_and] at key
        have q1 : ∀ r, FE .f64 r (cconv .f32 .f64 (cn .f32 a)) → r = A := fun r h => by
          have := h.out; rw [HA.out, eA] at this; exact (cn_some this).symm
        have q2 : ∀ r, FE .f64 r (cconv .f32 .f64 (cn .f32 b)) → r = B := fun r h => by
          have := h.out; rw [HB.out, eB] at this; exact (cn_some this).symm
        have z1 := q1 _ ‹FE _ _ (cconv _ _ (cn _ a))›
        have z2 := q2 _ ‹FE _ _ (cconv _ _ (cn _ b))›
        show Value.bool (decide (_ ≤ _) == decide (_ ≤ _)) = _
        rw [z1, z2, key]
        simp
      · have he' : (FloatKind.f32.format.order a b == some .eq) = false := by simpa using he
        clear he
        go_enter Tryz.func48, Tryz.ntmps48
        go_wp2
        go_ret
        refine RetV.mk0 ?_
        have : a ≠ b := by
          intro e; subst e
          rw [order_self HA.out] at he'; cases he'
        simp [this]

/-! subnormal numbers -/
theorem and_exp (x : Nat) : x &&& 2139095040 = x / 8388608 % 256 * 8388608 := by
  apply Nat.eq_of_testBit_eq
  intro i
  rw [show (2139095040 : Nat) = (2 ^ 8 - 1) * 2 ^ 23 by rfl, show (8388608 : Nat) = 2 ^ 23 by rfl, show (256 : Nat) = 2 ^ 8 by rfl]
  rw [Nat.testBit_and, Nat.testBit_mul_two_pow, Nat.testBit_mul_two_pow, Nat.testBit_mod_two_pow, Nat.testBit_div_two_pow, Nat.testBit_two_pow_sub_one]
  by_cases h : 23 ≤ i
  · simp only [h, decide_true, Bool.true_and]
    rw [show i - 23 + 23 = i by omega, Bool.and_comm]
  · simp [h]
theorem bits_and_i64_nat (a b : Nat) (ha : a < 9223372036854775808) (hb : b < 9223372036854775808) : bits .and .i64 (a : Int) (b : Int) = ((a &&& b : Nat) : Int) := by
  have hx : a &&& b ≤ a := Nat.and_le_left
  have h1 : (BitVec.ofInt 64 (a : Int)).toNat = a := by
    rw [BitVec.ofInt_natCast, BitVec.toNat_ofNat]; exact Nat.mod_eq_of_lt (by omega)
  have h2 : (BitVec.ofInt 64 (b : Int)).toNat = b := by
    rw [BitVec.ofInt_natCast, BitVec.toNat_ofNat]; exact Nat.mod_eq_of_lt (by omega)
  show IntKind.i64.wrap ((BitVec.ofInt 64 (a : Int) &&& BitVec.ofInt 64 (b : Int)).toNat : Int) = _
  rw [BitVec.toNat_and, h1, h2, IntKind.wrap_i64]
  omega
theorem i64_exp (x : Nat) (hx : x < 4294967296) : bits .and .i64 (x : Int) 2139095040 = ((x / 8388608 % 256 * 8388608 : Nat) : Int) := by
  have h := bits_and_i64_nat x 2139095040 (by omega) (by omega)
  rw [and_exp] at h
  exact h

/-- not zero, and nearer to 0 than 2^-126 -/
def isSub : Option Nat → Bool
  | some x => decide (0 < x % 2147483648 ∧ x % 2147483648 < 8388608)
  | none => false

theorem order_zero {x : Nat} (hx : x < 4294967296) (c : cn .f32 x = some x) : (FloatKind.f32.format.order x 0 = some .eq) ↔ x % 2147483648 = 0 := by
  rw [order_sr .f32 x 0 (by rw [f32_sign]; omega) (by rw [f32_sign]; omega) c cn_zero32]
  have e0 : sr .f32 0 = 0 := by unfold sr; simp
  rw [e0, sr_eq, f32_sign, Option.some.injEq, Int.compare_eq_eq]
  split <;> omega

theorem sub_lit : cconv .f32 .f64 (some 8388608) = some 4039728865751334912 := by decide

theorem abs_up {x X : Nat} (hx : x < 4294967296) (c : cn .f32 x = some x) (e : cconv .f32 .f64 (some x) = some X) : cn .f32 (x % 2147483648) = some (x % 2147483648) ∧ cconv .f32 .f64 (some (x % 2147483648)) = some (X % 9223372036854775808) := by
  have z := cn_or32 c
  have c' : cn .f32 (x % 2147483648) = some (x % 2147483648) := cn_of_le _ _ (by rw [f32_sign, f32_inf]; omega)
  refine ⟨c', ?_⟩
  obtain ⟨X1, e1, l1, k1, s1, f1, i1⟩ := up_spec x hx c
  obtain ⟨X2, e2, l2, k2, s2, f2, i2⟩ := up_spec (x % 2147483648) (by omega) c'
  rw [e] at e1; cases e1
  rw [e2]
  have hs : sgn .f64 X2 = false := by rw [s2]; unfold sgn; rw [f32_sign]; simp; omega
  have hlt : X2 < 9223372036854775808 := by unfold sgn at hs; rw [f64_sign] at hs; simpa using hs
  congr 1
  rw [Nat.mod_mod] at f2 i2
  rcases z with a | a
  · have q1 := (f1 a).2
    have q2 := (f2 a).2
    rw [← q1] at q2
    have inj : X2 % 9223372036854775808 = X % 9223372036854775808 := by
      rcases Nat.lt_trichotomy (X2 % 9223372036854775808) (X % 9223372036854775808) with t | t | t
      · have := rval_lt 4503599627370496 (by omega) t; omega
      · exact t
      · have := rval_lt 4503599627370496 (by omega) t; omega
    omega
  · have q1 := i1 a
    have q2 := i2 a
    omega

theorem sub_order {x X : Nat} (hx : x < 4294967296) (c : cn .f32 x = some x) (e : cconv .f32 .f64 (some x) = some X) :
    (FloatKind.f64.format.order (X % 9223372036854775808) 4039728865751334912 == some .lt) = decide (x % 2147483648 < 8388608) := by
  obtain ⟨c', e'⟩ := abs_up hx c e
  rw [up_order (x := x % 2147483648) (y := 8388608) (by omega) (by omega) c' (by decide) e' sub_lit]
  rw [order_sr .f32 _ _ (by rw [f32_sign]; omega) (by rw [f32_sign]; omega) c' (by decide)]
  have s1 : sr .f32 (x % 2147483648) = ((x % 2147483648 : Nat) : Int) := by
    unfold sr; rw [f32_sign, if_neg (by omega), Nat.mod_mod]
  have s2 : sr .f32 8388608 = 8388608 := by unfold sr; rw [f32_sign, if_neg (by omega)]; rfl
  rw [s1, s2, Bool.eq_iff_iff]
  simp only [beq_iff_eq, Option.some.injEq, Int.compare_eq_lt, decide_eq_true_eq]
  omega

end Go.Proofs.YtkemghecglbleaaGreatDoor
/- What FromBits gives on both sides. -/
namespace Go.Proofs.YtkemghecglbleaaGreatDoor
set_option maxRecDepth 100000
open Go.RowKit

set_option maxHeartbeats 400000 in
theorem impl_within (n lo hi : Int) (w : World) :
    Calls Tryz.prog 42 #[.int .i64 n, .int .i64 lo, .int .i64 hi] w (RetV (.bool (decide (lo ≤ n) && decide (n ≤ hi))) w) := by
  go_enter Tryz.func42, Tryz.ntmps42
  go_wp2
  all_goals go_ret
  all_goals exact RetV.mk0 (by simp_all <;> omega)

/-- what FromBits gives -/
def fromC (n : Int) : Option Nat := if 0 ≤ n ∧ n ≤ 4294967295 then cn .f32 n.toNat else some 0

theorem FE_self {k : FloatKind} {x : Nat} (h : x < 2 * k.format.signWeight) : FE k x (cn k x) := ⟨rfl, h⟩

theorem FE_zero32 : FE .f32 0 (some 0) := ⟨cn_zero32, by rw [f32_sign]; omega⟩

set_option maxHeartbeats 400000 in
theorem spec_l01From (n : Int) (h0 : 0 ≤ n) (h1 : n ≤ 4294967295) (w : World) :
    Calls Tryz.prog 40 #[.int .i64 n] w (RetV (.float .f32 n.toNat) w) := by
  have e := ext_f32from
  go_enter Tryz.func40, Tryz.ntmps40
  go_wp2
  go_ret
  exact RetV.mk0 rfl

set_option maxHeartbeats 400000 in
theorem impl_FromBits (n : Int) (w : World) :
    Calls Tryz.prog 19 #[.int .i64 n] w (RetFB .f32 (fromC n) (decide (0 ≤ n ∧ n ≤ 4294967295)) w) := by
  have e := ext_f32from
  by_cases h : 0 ≤ n ∧ n ≤ 4294967295
  · obtain ⟨h0, h1⟩ := h
    go_enter Tryz.func19, Tryz.ntmps19
    go_wp2_with (go_at_call 42; refine (impl_within _ _ _ _).mono ?_; rintro _ _ ⟨nd, rfl, rfl⟩)
    go_ret2
    refine RetFB.mk ?_ ?_
    · unfold fromC; rw [if_pos ⟨h0, h1⟩]; exact FE_self (by rw [f32_sign]; omega)
    · simp [h0, h1]
  · have hb : (decide (0 ≤ n) && decide (n ≤ 4294967295)) = false := by
      rw [Bool.and_eq_false_iff]; simp only [decide_eq_false_iff_not]; omega
    go_enter Tryz.func19, Tryz.ntmps19
    go_wp2_with (go_at_call 42; refine (impl_within _ _ _ _).mono ?_; rintro _ _ ⟨nd, rfl, rfl⟩)
    go_ret2
    refine RetFB.mk ?_ ?_
    · unfold fromC; rw [if_neg h]; exact FE_zero32
    · simp [h]

end Go.Proofs.YtkemghecglbleaaGreatDoor
/- Plain laws of floating-point numbers: the square root. No condition. -/
namespace Go.Proofs.YtkemghecglbleaaGreatDoor
set_option maxRecDepth 100000

def csqrt : Option Nat → Option Nat
  | some x => FloatKind.f64.format.sqrt x
  | none => none

open Ieee in
theorem root_not_nan {n : Nat} {x d : Datum} (h : x.root n = some d) : d.isNaN = false := by
  unfold Datum.root at h
  split at h <;> first | (cases h; done) | skip
  · split at h <;> cases h; rfl
  · split at h
    · cases h; rfl
    · split at h <;> cases h; rfl

theorem sqrt_csqrt (x : Nat) : FloatKind.f64.format.sqrt x = csqrt (cn .f64 x) := by
  unfold cn
  cases hx : (FloatKind.f64.decode x).isNaN
  · simp [csqrt]
  · simp only [if_true, csqrt]
    unfold Ieee.Format.sqrt
    unfold FloatKind.decode at hx
    generalize FloatKind.f64.format.read x = a at hx
    cases a <;> simp [Ieee.Datum.isNaN] at hx
    rfl

theorem run_sqrt (P : Program) (w : World) (x : Nat) :
    ∃ r n, (Extern.MathSqrt.sqrt #[.float .f64 x]).run P w = .ok (.float .f64 r) (w.drewN n) ∧ FE .f64 r (csqrt (cn .f64 x)) := by
  cases h : FloatKind.f64.format.sqrt x with
  | some r =>
    refine ⟨r, 0, by show (match FloatKind.f64.format.sqrt x with | some r => (pure (.float .f64 r) : Sem Value) | none => do pure (.float .f64 (← choose (.nanBits .f64 x x)))).run P w = _; rw [h]; rfl, ?_, ?_⟩
    · rw [← sqrt_csqrt, h]
      unfold Ieee.Format.sqrt at h
      obtain ⟨d, hd, rfl⟩ := Option.map_eq_some_iff.1 h
      have := write_not_nan FloatKind.f64.format (root_not_nan hd)
      simp [cn, FloatKind.decode, this]
    · have := FloatKind.f64.format.sqrt_lt h
      rw [f64_sign]
      exact this
  | none =>
    refine ⟨Question.cut (.nanBits .f64 x x) (w.tape w.drawn (.nanBits .f64 x x)), 1, ?_, (cut_nanBits .f64 x x _).trans (by rw [← sqrt_csqrt, h]), cut_nanBits_lt .f64 x x _⟩
    show (match FloatKind.f64.format.sqrt x with | some r => (pure (.float .f64 r) : Sem Value) | none => do pure (.float .f64 (← choose (.nanBits .f64 x x)))).run P w = _
    rw [h]
    rfl

theorem rootFrom_lt (n : Nat) : ∀ (t root : Nat), Ieee.Datum.rootFrom n t root < root + 2 ^ t := by
  intro t
  induction t with
  | zero => intro root; unfold Ieee.Datum.rootFrom; omega
  | succ t ih =>
    intro root
    unfold Ieee.Datum.rootFrom
    have e : 2 ^ (t + 1) = 2 ^ t + 2 ^ t := by rw [Nat.pow_succ]; omega
    have hp : 0 < 2 ^ t := Nat.two_pow_pos t
    simp only [Nat.one_shiftLeft]
    split
    · have := ih (root + 2 ^ t); omega
    · have := ih root; omega

theorem log2_shift (m a : Nat) (hm : m ≠ 0) : (m <<< a).log2 = m.log2 + a := by
  rw [Nat.shiftLeft_eq]
  have h1 := Nat.log2_self_le hm
  have h2 := log2_lt m
  have hp : 0 < 2 ^ a := Nat.two_pow_pos _
  have hne : m * 2 ^ a ≠ 0 := Nat.mul_ne_zero hm (by omega)
  have lo : 2 ^ (m.log2 + a) ≤ m * 2 ^ a := by rw [Nat.pow_add]; exact Nat.mul_le_mul_right _ h1
  have hi : m * 2 ^ a < 2 ^ (m.log2 + a + 1) := by
    rw [show m.log2 + a + 1 = (m.log2 + 1) + a by omega, Nat.pow_add]; exact Nat.mul_lt_mul_of_pos_right h2 hp
  have a1 := (Nat.log2_lt hne).2 hi
  have a2 := (Nat.le_log2 hne).2 lo
  omega

open Ieee in
theorem Dl.root {x d : Datum} {q : Nat} {T : Int} (hx : Dl x T) (h : x.root q = some d) : Dl d (T / 2 + 1) := by
  obtain ⟨s, m, i, rfl, hx⟩ := hx
  unfold Datum.root at h
  dsimp only at h
  split at h
  · rename_i h0
    cases h
    exact ⟨s, m, i, rfl, .inl h0⟩
  · rename_i hm
    split at h
    · cases h
    · cases h
      refine ⟨_, _, _, rfl, ?_⟩
      have hx := hx.resolve_left hm
      generalize hmore : 2 * q - m.log2 + ((i - ((2 * q - m.log2 : Nat) : Int)) % 2).toNat = more
      have heven : (i - (more : Int)) % 2 = 0 := by omega
      have hl := log2_shift m more hm
      have hr := rootFrom_lt (m <<< more) ((m <<< more).log2 / 2 + 1) 0
      generalize Datum.rootFrom (m <<< more) ((m <<< more).log2 / 2 + 1) 0 = whole at hr
      have hb : ∀ b : Bool, b.toNat ≤ 1 := by decide
      have h1 := hb (whole * whole != m <<< more)
      rw [hl] at hr
      have : 2 * whole + (whole * whole != m <<< more).toNat < 2 ^ ((m.log2 + more) / 2 + 1 + 1) := by
        rw [Nat.pow_succ _ ((m.log2 + more) / 2 + 1)]; omega
      rcases log2_le_of_lt this with h | h
      · exact .inl h
      · right; omega

theorem Lg.csqrt {c : Option Nat} {T : Int} (hc : Lg .f64 c T) (h0 : 0 ≤ T) (h1 : T / 2 + 1 ≤ 1021) : Lg .f64 (csqrt c) (T / 2 + 2) := by
  intro r hr
  cases c with
  | none => cases hr
  | some x =>
    simp only [Proofs.YtkemghecglbleaaGreatDoor.csqrt] at hr
    unfold Ieee.Format.sqrt at hr
    obtain ⟨e, he, rfl⟩ := Option.map_eq_some_iff.1 hr
    have := write_Dl .f64 (Dl.root (hc x rfl) he) (by omega) (by simp only [top]; omega)
    rwa [show T / 2 + 2 = T / 2 + 1 + 1 by omega]

/-- a 32-bit number that is finite, in 64 bits -/
theorem Lg_up {c : Option Nat} (h : ∀ x, c = some x → (FloatKind.f32.decode x).isInfinity = false ∧ (FloatKind.f32.decode x).isNaN = false) : Lg .f64 (cconv .f32 .f64 c) 128 := by
  intro X hX
  cases c with
  | none => cases hX
  | some x =>
    obtain ⟨h1, h2⟩ := h x rfl
    simp only [cconv, Option.some.injEq] at hX
    cases hd : FloatKind.f32.decode x with
    | nan => rw [hd] at h2; cases h2
    | infinity => rw [hd] at h1; cases h1
    | number g m e =>
      rw [hd] at hX
      dsimp only at hX
      subst hX
      have := decode_Dl .f32 x hd
      rw [hd] at this
      exact write_Dl .f64 this (by decide) (by decide)
end Go.Proofs.YtkemghecglbleaaGreatDoor
/- Plain laws of floating-point numbers: bounds by powers of two that rounding keeps. No condition. -/
namespace Go.Proofs.YtkemghecglbleaaGreatDoor
set_option maxRecDepth 100000

/-- a finite number of magnitude at most 2^T -/
def Db (d : Ieee.Datum) (T : Int) : Prop := ∃ s m e, d = .number s m e ∧ (m = 0 ∨ (e ≤ T ∧ m ≤ 2 ^ (T - e).toNat))
/-- if c is some x, x is such a number -/
def Lb (k : FloatKind) (c : Option Nat) (T : Int) : Prop := ∀ x, c = some x → Db (k.decode x) T

theorem Db.mono {d : Ieee.Datum} {T U : Int} (h : Db d T) (hu : T ≤ U) : Db d U := by
  obtain ⟨s, m, e, rfl, h⟩ := h
  refine ⟨s, m, e, rfl, h.imp id fun ⟨h1, h2⟩ => ⟨by omega, Nat.le_trans h2 (Nat.pow_le_pow_right (by omega) (by omega))⟩⟩
theorem Lb.mono {k : FloatKind} {c : Option Nat} {T U : Int} (h : Lb k c T) (hu : T ≤ U) : Lb k c U := fun x hx => (h x hx).mono hu
theorem Db.toDl {d : Ieee.Datum} {T : Int} (h : Db d T) : Dl d T := by
  obtain ⟨s, m, e, rfl, h⟩ := h
  refine ⟨s, m, e, rfl, ?_⟩
  rcases h with h | ⟨h1, h2⟩
  · exact .inl h
  · rcases log2_le_of_lt (Nat.lt_of_le_of_lt h2 (Nat.pow_lt_pow_right (by omega) (Nat.lt_succ_self _))) with h | h
    · exact .inl h
    · right; omega
theorem Lb.toLg {k : FloatKind} {c : Option Nat} {T : Int} (h : Lb k c T) : Lg k c T := fun x hx => (h x hx).toDl
theorem Dl.toDb {d : Ieee.Datum} {T : Int} (h : Dl d T) : Db d (T + 1) := by
  obtain ⟨s, m, e, rfl, h⟩ := h
  refine ⟨s, m, e, rfl, h.imp id fun h => ⟨by omega, ?_⟩⟩
  exact Nat.le_trans (Nat.le_of_lt (log2_lt m)) (Nat.pow_le_pow_right (by omega) (by omega))

theorem read_Db (f : Ieee.Format) (neg : Bool) (r : Nat) (T : Int) (hr : r ≤ f.infRung) (hlo : f.leastPlace + f.fractionBits ≤ T) (hb : 0 < f.fractionBits)
    (h : r ≤ ((T - f.fractionBits - f.leastPlace).toNat + 1) * f.binade) (hfin : ((T - f.fractionBits - f.leastPlace).toNat + 1) * f.binade < f.infRung) : Db (f.read (f.word neg r)) T := by
  have hs := f.infRung_lt
  have hbp : 0 < f.binade := Nat.two_pow_pos _
  have hw : f.word neg r % f.signWeight = r := by
    unfold Ieee.Format.word
    split
    · rw [Nat.add_mod_left, Nat.mod_eq_of_lt (by omega)]
    · exact Nat.mod_eq_of_lt (by omega)
  unfold Ieee.Format.read
  simp only [hw]
  split
  · rename_i hlt
    refine ⟨_, _, _, rfl, .inr ⟨by omega, ?_⟩⟩
    exact Nat.le_trans (Nat.le_of_lt hlt) (Nat.pow_le_pow_right (by omega) (by omega))
  · rename_i hge
    rw [if_pos (by omega)]
    have hmod := Nat.mod_lt r hbp
    have hd1 : 1 ≤ r / f.binade := (Nat.le_div_iff_mul_le hbp).2 (by omega)
    have hdiv : r / f.binade ≤ (T - f.fractionBits - f.leastPlace).toNat + 1 := by
      have := Nat.div_le_div_right (c := f.binade) h
      rwa [Nat.mul_div_cancel _ hbp] at this
    refine ⟨_, _, _, rfl, .inr ⟨by omega, ?_⟩⟩
    rcases Nat.lt_or_eq_of_le hdiv with hd | hd
    · refine Nat.le_trans (show f.binade + r % f.binade ≤ 2 ^ (f.fractionBits + 1) by rw [Nat.pow_succ]; unfold Ieee.Format.binade at *; omega) (Nat.pow_le_pow_right (by omega) (by omega))
    · have hm0 : r % f.binade = 0 := by
        have h1 := Nat.div_add_mod r f.binade
        rw [hd, Nat.mul_comm] at h1
        omega
      rw [hm0, Nat.add_zero]
      exact Nat.pow_le_pow_right (by omega) (by omega)

theorem nearest_Db (f : Ieee.Format) (neg : Bool) (m : Nat) (p : Int) (T : Int) (h : m = 0 ∨ (p ≤ T ∧ m ≤ 2 ^ (T - p).toNat)) (hlo : f.leastPlace + f.fractionBits < T) (hb : 0 < f.fractionBits)
    (hfin : ((T - f.fractionBits - f.leastPlace).toNat + 1) * f.binade < f.infRung) : Db (f.read (f.nearest neg m p)) T := by
  by_cases hm : m = 0
  · subst hm
    rw [nearest_zero]
    exact read_Db f neg 0 T (Nat.zero_le _) (by omega) hb (Nat.zero_le _) hfin
  · obtain ⟨h1, h2⟩ := h.resolve_left hm
    have hbp : 0 < f.binade := Nat.two_pow_pos _
    rcases Nat.lt_or_eq_of_le h2 with h2 | h2
    · have hl : p + (m.log2 : Int) ≤ T - 1 := by
        have := (Nat.log2_lt hm).2 h2
        omega
      obtain ⟨r, hr, h3, h4⟩ := nearest_word f neg m p hm (T - 1) hl (by omega)
      rw [hr]
      refine read_Db f neg r T h4 (by omega) hb ?_ hfin
      refine Nat.le_trans h3 (Nat.mul_le_mul_right _ ?_)
      omega
    · have hn := nearest_of f neg m p f.binade (T - f.fractionBits) (by omega) (by
          rw [h2]
          unfold Ieee.Format.binade
          rw [← Nat.pow_add, ← Nat.pow_add]
          congr 1
          omega) (by omega) (by omega) (.inl (Nat.le_refl _)) (by
          have e : (T - f.fractionBits - f.leastPlace).toNat * f.binade + f.binade = ((T - f.fractionBits - f.leastPlace).toNat + 1) * f.binade := by rw [Nat.add_mul, Nat.one_mul]
          omega)
      rw [hn]
      have e : (T - f.fractionBits - f.leastPlace).toNat * f.binade + f.binade = ((T - f.fractionBits - f.leastPlace).toNat + 1) * f.binade := by rw [Nat.add_mul, Nat.one_mul]
      rw [e]
      exact read_Db f neg _ T (by omega) (by omega) hb (Nat.le_refl _) hfin

/-- the range in which a bound may lie -/
def InR (k : FloatKind) (T : Int) : Prop := match k with | .f32 => -126 < T ∧ T ≤ 126 | .f64 => -1022 < T ∧ T ≤ 1022

theorem write_Db (k : FloatKind) {d : Ieee.Datum} {T : Int} (h : Db d T) (hT : InR k T) : Db (k.decode (k.encode d)) T := by
  obtain ⟨s, m, e, rfl, h⟩ := h
  unfold FloatKind.decode FloatKind.encode Ieee.Format.write
  refine nearest_Db k.format s m e T h ?_ ?_ ?_
  · cases k
    · simp only [InR] at hT; rw [f32_least, f32_frac]; omega
    · simp only [InR] at hT; rw [f64_least, f64_frac]; omega
  · cases k <;> decide
  · cases k
    · simp only [InR] at hT
      rw [f32_least, f32_frac, f32_bin, f32_inf]; omega
    · simp only [InR] at hT
      rw [f64_least, f64_frac, f64_bin, f64_inf]; omega

/-- A 64-bit number of magnitude at most 2^126 is narrowed to a finite one. -/
theorem Lb.fits {c : Option Nat} {T : Int} (h : Lb .f64 c T) (h1 : T ≤ 126) : Fits .f64 .f32 c := by
  cases c with
  | none => trivial
  | some x =>
    intro g m e hx
    have h2 := (h x rfl).mono h1
    rw [hx] at h2
    have := write_Db .f32 h2 ⟨by omega, by omega⟩
    exact this.toDl.not_inf

open Ieee in
theorem Db.sum {x y d : Datum} {T : Int} (hx : Db x T) (hy : Db y T) (h : x.sum y = some d) : Db d (T + 1) := by
  obtain ⟨s, m, i, rfl, hx⟩ := hx
  obtain ⟨t, n, j, rfl, hy⟩ := hy
  simp only [Datum.sum, Option.some.injEq] at h
  subst h
  refine ⟨_, _, _, rfl, ?_⟩
  have hs : ∀ (s : Bool) (m a : Nat), (signed s m a).natAbs = m * 2 ^ a := by
    intro s m a; unfold signed; split <;> (rw [Nat.shiftLeft_eq]; first | rw [Int.natAbs_neg, Int.natAbs_natCast] | rw [Int.natAbs_natCast])
  have hle := Int.natAbs_add_le (signed s m (i - min i j).toNat) (signed t n (j - min i j).toNat)
  rw [hs, hs] at hle
  generalize hM : (signed s m (i - min i j).toNat + signed t n (j - min i j).toNat).natAbs = M at hle ⊢
  have up : ∀ (m : Nat) (i b : Int), b ≤ i → (m = 0 ∨ (i ≤ T ∧ m ≤ 2 ^ (T - i).toNat)) → m * 2 ^ (i - b).toNat ≤ 2 ^ (T - b).toNat := by
    intro m i b hb h
    rcases h with h | ⟨h1, h2⟩
    · subst h; simp
    · refine Nat.le_trans (Nat.mul_le_mul_right _ h2) ?_
      rw [← Nat.pow_add]
      exact Nat.pow_le_pow_right (by omega) (by omega)
  by_cases hb : min i j ≤ T
  · right
    refine ⟨by omega, ?_⟩
    have b1 := up m i (min i j) (by omega) hx
    have b2 := up n j (min i j) (by omega) hy
    rw [show (T + 1 - min i j).toNat = (T - min i j).toNat + 1 by omega, Nat.pow_succ]
    omega
  · left
    have e1 : m = 0 := by rcases hx with h | h <;> omega
    have e2 : n = 0 := by rcases hy with h | h <;> omega
    subst e1; subst e2
    simpa using hle

open Ieee in
theorem Db.opposite {y : Datum} {T : Int} (h : Db y T) : Db y.opposite T := by
  obtain ⟨s, m, i, rfl, h⟩ := h; exact ⟨!s, m, i, rfl, h⟩

open Ieee in
theorem Db.product {x y d : Datum} {T U : Int} (hx : Db x T) (hy : Db y U) (h : x.product y = some d) : Db d (T + U) := by
  obtain ⟨s, m, i, rfl, hx⟩ := hx
  obtain ⟨t, n, j, rfl, hy⟩ := hy
  simp only [Datum.product, Option.some.injEq] at h
  subst h
  refine ⟨_, _, _, rfl, ?_⟩
  rcases hx with h | ⟨h1, h2⟩
  · left; simp [h]
  rcases hy with h | ⟨h3, h4⟩
  · left; simp [h]
  right
  refine ⟨by omega, Nat.le_trans (Nat.mul_le_mul h2 h4) ?_⟩
  rw [← Nat.pow_add]
  exact Nat.pow_le_pow_right (by omega) (by omega)

open Ieee in
theorem Db.quotient {x y d : Datum} {q : Nat} {T L : Int} (hx : Db x T) (hy : Al y L) (hq : 2 ≤ q) (h : x.quotient q y = some d) : Db d (T - L) := by
  obtain ⟨s, m, i, rfl, hx⟩ := hx
  obtain ⟨t, n, j, rfl, hn, hy⟩ := hy
  simp only [Datum.quotient, if_neg hn, Option.some.injEq] at h
  subst h
  refine ⟨_, _, _, rfl, ?_⟩
  rcases hx with h | ⟨h1, h2⟩
  · left; subst h; simp
  by_cases hm : m = 0
  · left; subst hm; simp
  have hmore : n.log2 + 2 ≤ m.log2 + (q + n.log2 - m.log2) ∨ m.log2 > q + n.log2 := by omega
  have hml : m.log2 ≤ (T - i).toNat := by
    rcases log2_le_of_lt (Nat.lt_of_le_of_lt h2 (Nat.pow_lt_pow_right (by omega) (Nat.lt_succ_self _))) with h | h
    · exact absurd h hm
    · exact h
  generalize hmo : q + n.log2 - m.log2 = more at hmore
  rw [Nat.shiftLeft_eq]
  have hn' : 2 ^ n.log2 ≤ n := Nat.log2_self_le hn
  right
  refine ⟨by omega, ?_⟩
  -- W: the bound in whole units of the quotient
  obtain ⟨K, hK⟩ : ∃ K : Nat, (K : Int) = T - L - (i - j - more) := ⟨(T - L - (i - j - more)).toNat, by omega⟩
  rw [show (T - L - (i - j - (more : Int) - 1)).toNat = K + 1 by omega, Nat.pow_succ]
  have hle : m * 2 ^ more ≤ 2 ^ K * n := by
    refine Nat.le_trans (Nat.mul_le_mul_right _ h2) ?_
    rw [← Nat.pow_add]
    refine Nat.le_trans ?_ (Nat.mul_le_mul_left _ hn')
    rw [← Nat.pow_add]
    exact Nat.pow_le_pow_right (by omega) (by omega)
  have hdm := Nat.div_add_mod (m * 2 ^ more) n
  have hnp : 0 < n := by omega
  have hd : m * 2 ^ more / n ≤ 2 ^ K := Nat.div_le_of_le_mul (by rw [Nat.mul_comm n]; exact hle)
  by_cases hr : m * 2 ^ more % n = 0
  · simp only [hr, bne_self_eq_false, Bool.toNat_false]; omega
  · have hlt : m * 2 ^ more / n < 2 ^ K := by
      rcases Nat.lt_or_eq_of_le hd with h | h
      · exact h
      · rw [h, Nat.mul_comm] at hdm; omega
    have : (m * 2 ^ more % n != 0) = true := by simpa using hr
    rw [this]
    simp only [Bool.toNat_true]; omega

theorem Lb.add {k : FloatKind} {c d : Option Nat} {T : Int} (hc : Lb k c T) (hd : Lb k d T) (h1 : InR k (T + 1)) : Lb k (cop .add k c d) (T + 1) := by
  intro r hr
  cases c with
  | none => cases hr
  | some x =>
  cases d with
  | none => cases hr
  | some y =>
    simp only [cop, floatBits] at hr
    obtain ⟨e, he, rfl⟩ := Option.map_eq_some_iff.1 hr
    exact write_Db k (Db.sum (hc x rfl) (hd y rfl) he) h1

theorem Lb.sub {k : FloatKind} {c d : Option Nat} {T : Int} (hc : Lb k c T) (hd : Lb k d T) (h1 : InR k (T + 1)) : Lb k (cop .sub k c d) (T + 1) := by
  intro r hr
  cases c with
  | none => cases hr
  | some x =>
  cases d with
  | none => cases hr
  | some y =>
    simp only [cop, floatBits] at hr
    obtain ⟨e, he, rfl⟩ := Option.map_eq_some_iff.1 hr
    exact write_Db k (Db.sum (hc x rfl) (hd y rfl).opposite he) h1

theorem Lb.mul {k : FloatKind} {c d : Option Nat} {T U : Int} (hc : Lb k c T) (hd : Lb k d U) (h1 : InR k (T + U)) : Lb k (cop .mul k c d) (T + U) := by
  intro r hr
  cases c with
  | none => cases hr
  | some x =>
  cases d with
  | none => cases hr
  | some y =>
    simp only [cop, floatBits] at hr
    obtain ⟨e, he, rfl⟩ := Option.map_eq_some_iff.1 hr
    exact write_Db k (Db.product (hc x rfl) (hd y rfl) he) h1

/-- if c is some y, y is at least 2^L in magnitude -/
def Lo (k : FloatKind) (c : Option Nat) (L : Int) : Prop := ∀ y, c = some y → Al (k.decode y) L

theorem Lb.quo {k : FloatKind} {c d : Option Nat} {T L : Int} (hc : Lb k c T) (hd : Lo k d L) (h1 : InR k (T - L)) : Lb k (cop .quo k c d) (T - L) := by
  intro r hr
  cases c with
  | none => cases hr
  | some x =>
  cases d with
  | none => cases hr
  | some y =>
    simp only [cop, floatBits] at hr
    obtain ⟨e, he, rfl⟩ := Option.map_eq_some_iff.1 hr
    exact write_Db k (Db.quotient (hc x rfl) (hd y rfl) (by cases k <;> decide) he) h1

/-! at least so great -/
theorem nearest_Al (f : Ieee.Format) (neg : Bool) (m : Nat) (p : Int) (L : Int) (hm : m ≠ 0) (h : L ≤ p + (m.log2 : Int)) (hlo : f.leastPlace + f.fractionBits ≤ L) (hb : 0 < f.fractionBits)
    (hBI : f.binade ≤ f.infRung) (hfin : (f.read (f.nearest neg m p)).isInfinity = false) : Al (f.read (f.nearest neg m p)) L := by
  have hbp : 0 < f.binade := Nat.two_pow_pos _
  obtain ⟨r, hr, hr2⟩ : ∃ r, f.nearest neg m p = f.word neg (min r f.infRung) ∧ ((L - f.fractionBits - f.leastPlace).toNat + 1) * f.binade ≤ r := by
    unfold Ieee.Format.nearest
    dsimp only
    rw [if_neg hm]
    refine ⟨_, rfl, ?_⟩
    generalize hl : max (p + (m.log2 : Int) - f.fractionBits) f.leastPlace = last
    have hlast : last = p + (m.log2 : Int) - f.fractionBits := by omega
    -- what is kept is at least a full significand
    have hk : f.binade ≤ Ieee.Toward.even.cut neg (m <<< (p - last).toNat) (last - p).toNat := by
      unfold Ieee.Toward.cut
      refine Nat.le_trans ?_ (Nat.le_add_right _ _)
      simp only [Nat.one_shiftLeft]
      rw [log2_shift m _ hm, Nat.le_div_iff_mul_le (Nat.two_pow_pos _), Nat.shiftLeft_eq]
      unfold Ieee.Format.binade
      rw [← Nat.pow_add]
      refine Nat.le_trans ?_ (Nat.mul_le_mul_right _ (Nat.log2_self_le hm))
      rw [← Nat.pow_add]
      exact Nat.pow_le_pow_right (by omega) (by omega)
    rw [Nat.add_mul, Nat.one_mul]
    refine Nat.add_le_add (Nat.mul_le_mul_right _ (by omega)) hk
  rw [hr] at hfin ⊢
  have hs := f.infRung_lt
  have hle := Nat.min_le_right r f.infRung
  have hmin : min r f.infRung = r ∨ min r f.infRung = f.infRung := by omega
  generalize min r f.infRung = R at hle hmin hfin
  have hw : f.word neg R % f.signWeight = R := by
    unfold Ieee.Format.word
    split
    · rw [Nat.add_mod_left, Nat.mod_eq_of_lt (by omega)]
    · exact Nat.mod_eq_of_lt (by omega)
  unfold Ieee.Format.read at hfin ⊢
  simp only [hw] at hfin ⊢
  have hRB : f.binade ≤ ((L - f.fractionBits - f.leastPlace).toNat + 1) * f.binade := Nat.le_mul_of_pos_left _ (by omega)
  by_cases h1 : R = f.infRung
  · subst h1
    by_cases h2 : f.infRung < f.binade
    · omega
    · rw [if_neg h2, if_neg (by omega), if_pos rfl] at hfin; cases hfin
  · have hR : R = r := by omega
    subst hR
    rw [if_neg (by omega), if_pos (by omega)]
    refine ⟨_, _, _, rfl, by omega, ?_⟩
    have hd : (L - f.fractionBits - f.leastPlace).toNat + 1 ≤ R / f.binade := (Nat.le_div_iff_mul_le hbp).2 hr2
    have hl : f.fractionBits ≤ (f.binade + R % f.binade).log2 := (Nat.le_log2 (by omega)).2 (by unfold Ieee.Format.binade; omega)
    omega
end Go.Proofs.YtkemghecglbleaaGreatDoor
/- What IsFinite tells of a number. No condition. -/
namespace Go.Proofs.YtkemghecglbleaaGreatDoor
set_option maxRecDepth 100000

/-- what is taken from itself is zero for finite numbers alone -/
theorem sub_self32 {x : Nat} (hx : x < 4294967296) (c : cn .f32 x = some x) : cop .sub .f32 (some x) (some x) = if x % 2147483648 < 2139095040 then some 0 else none := by
  have hu : FloatKind.f32.format.sub x x = ((FloatKind.f32.decode x).sum (FloatKind.f32.decode x).opposite).map FloatKind.f32.format.write := rfl
  show FloatKind.f32.format.sub x x = _
  rw [hu]
  rcases cn_or32 c with a | a
  · obtain ⟨m, e, hd, _⟩ := read_num .f32 x (by rw [f32_sign]; omega) (by rw [f32_sign, f32_inf]; exact a)
    rw [hd, if_pos a]
    simp only [Ieee.Datum.opposite, Ieee.Datum.sum, Option.map_some]
    have ht : Ieee.signed (sgn .f32 x) m (e - min e e).toNat + Ieee.signed (!sgn .f32 x) m (e - min e e).toNat = 0 := by
      rw [signed_eq, signed_eq]
      cases sgn .f32 x <;> simp <;> omega
    rw [ht]
    have hb : (sgn .f32 x && !sgn .f32 x) = false := by cases sgn .f32 x <;> rfl
    rw [if_pos rfl, hb]
    refine congrArg some ?_
    show FloatKind.f32.format.nearest false (Int.natAbs 0) _ = 0
    rw [Int.natAbs_zero, nearest_zero]
    rfl
  · have hd := read_inf .f32 x (by rw [f32_sign]; omega) (by rw [f32_sign, f32_inf]; exact a)
    rw [hd, if_neg (by omega)]
    cases sgn .f32 x <;> rfl

theorem isFin_some {x : Nat} (hx : x < 4294967296) (c : cn .f32 x = some x) : isFin (some x) = decide (x % 2147483648 < 2139095040) := by
  unfold isFin
  rw [sub_self32 hx c]
  by_cases h : x % 2147483648 < 2139095040
  · rw [if_pos h]
    have : (cord .f32 (some 0) (some 0) == some .eq) = true := by decide
    rw [this]; simp [h]
  · rw [if_neg h]
    simp [cord, h]
end Go.Proofs.YtkemghecglbleaaGreatDoor
