/- What TenthsOf gives on both sides. -/
import Derived.Test.YtkemghecglbleaaGreatDoorLv
import Derived.Test.YtkemghecglbleaaGreatDoorSl
import GoSem.Extern.MathFloor
namespace Go.Proofs.YtkemghecglbleaaGreatDoor
set_option maxRecDepth 100000
open Go.RowKit

/-- a number made whole, downwards, upwards or towards zero -/
def cwhole (way : Ieee.Toward) : Option Nat → Option Nat
  | some x => some (FloatKind.f64.encode ((FloatKind.f64.decode x).integral way))
  | none => none

theorem run_whole (name : String) (way : Ieee.Toward) (P : Program) (w : World) (x : Nat) (c : cn .f64 x = some x) :
    (Extern.MathFloor.toIntegral name way #[.float .f64 x]).run P w = .ok (.float .f64 (FloatKind.f64.encode ((FloatKind.f64.decode x).integral way))) w := by
  show (match FloatKind.f64.decode x with
    | .nan s t => _
    | d => (pure (.float .f64 (FloatKind.f64.encode (d.integral way))) : Sem Value)).run P w = _
  cases hd : FloatKind.f64.decode x with
  | nan s t => unfold cn at c; rw [hd] at c; cases c
  | infinity s => rfl
  | number s m e => rfl

theorem cut_le_any (way : Ieee.Toward) (neg : Bool) (n drop : Nat) : way.cut neg n drop ≤ n / 2 ^ (min drop (n.log2 + 2)) + 1 := by
  unfold Ieee.Toward.cut
  simp only [Nat.one_shiftLeft]
  have : ∀ b : Bool, b.toNat ≤ 1 := by decide
  exact Nat.add_le_add_left (this _) _
theorem cut_zero (neg : Bool) (n drop : Nat) : Ieee.Toward.zero.cut neg n drop = n / 2 ^ (min drop (n.log2 + 2)) := by
  unfold Ieee.Toward.cut
  simp only [Nat.one_shiftLeft, Bool.toNat_false, Nat.add_zero]

theorem whole_le {m : Nat} {e T : Int} (h : m = 0 ∨ (e ≤ T ∧ m ≤ 2 ^ (T - e).toNat)) (h0 : 0 ≤ T) : (m <<< e.toNat) / 2 ^ (min (-e).toNat ((m <<< e.toNat).log2 + 2)) ≤ 2 ^ T.toNat := by
  rcases h with h | ⟨h1, h2⟩
  · subst h; simp
  · rw [Nat.shiftLeft_eq]
    rcases Int.le_total 0 e with he | he
    · refine Nat.le_trans (Nat.div_le_self _ _) ?_
      refine Nat.le_trans (Nat.mul_le_mul_right _ h2) ?_
      rw [← Nat.pow_add]
      exact Nat.pow_le_pow_right (by omega) (by omega)
    · rw [show e.toNat = 0 by omega, Nat.pow_zero, Nat.mul_one]
      by_cases hd : (-e).toNat ≤ m.log2 + 2
      · rw [Nat.min_eq_left hd]
        rw [Nat.div_le_iff_le_mul_add_pred (Nat.two_pow_pos _), ← Nat.pow_add]
        refine Nat.le_trans h2 (Nat.le_trans (Nat.pow_le_pow_right (by omega) (show (T - e).toNat ≤ (-e).toNat + T.toNat by omega)) (Nat.le_add_right _ _))
      · rw [Nat.min_eq_right (by omega)]
        have : m < 2 ^ (m.log2 + 2) := Nat.lt_of_lt_of_le (log2_lt m) (Nat.pow_le_pow_right (by omega) (by omega))
        rw [Nat.div_eq_of_lt this]
        exact Nat.zero_le _

open Ieee in
theorem Db.integral {d : Datum} {T : Int} (way : Toward) (h : Db d T) (h0 : 0 ≤ T) : Db (d.integral way) (T + 1) := by
  obtain ⟨s, m, e, rfl, h⟩ := h
  refine ⟨s, _, 0, rfl, .inr ⟨by omega, ?_⟩⟩
  have h1 := cut_le_any way s (m <<< e.toNat) (-e).toNat
  have h2 := whole_le h h0
  have h3 : 2 ^ T.toNat + 1 ≤ 2 ^ (T + 1 - 0).toNat := by
    rw [show (T + 1 - 0).toNat = T.toNat + 1 by omega, Nat.pow_succ]
    have := Nat.two_pow_pos T.toNat
    omega
  omega

open Ieee in
theorem Db.toInt {d : Datum} {T : Int} (h : Db d T) (h0 : 0 ≤ T) : ∃ n, d.toInt .zero = some n ∧ -(2 ^ T.toNat : Nat) ≤ n ∧ n ≤ (2 ^ T.toNat : Nat) := by
  obtain ⟨s, m, e, rfl, h⟩ := h
  have h2 := whole_le h h0
  rw [← cut_zero s] at h2
  refine ⟨signed s (Toward.zero.cut s (m <<< e.toNat) (-e).toNat) 0, rfl, ?_⟩
  rw [signed_eq, Nat.pow_zero, Nat.mul_one]
  split <;> omega

theorem Fb.toInt {v : Nat} {T : Int} (h : Db (FloatKind.f64.decode v) T) (h0 : 0 ≤ T) (h1 : T ≤ 62) : ∃ n, floatToIntVal .f64 v .i64 = some n ∧ -(2 ^ T.toNat : Nat) ≤ n ∧ n ≤ (2 ^ T.toNat : Nat) := by
  obtain ⟨n, hn, l, u⟩ := h.toInt h0
  have hp : 2 ^ T.toNat ≤ 2 ^ 62 := Nat.pow_le_pow_right (by omega) (by omega)
  refine ⟨n, ?_, l, u⟩
  unfold floatToIntVal
  rw [hn]
  have h2 : (2 : Nat) ^ 62 = 4611686018427387904 := by decide
  rw [h2] at hp
  have hr : IntKind.i64.min ≤ n ∧ n ≤ IntKind.i64.max := by
    have e1 : IntKind.i64.min = -9223372036854775808 := by decide
    have e2 : IntKind.i64.max = 9223372036854775807 := by decide
    rw [e1, e2]
    omega
  simp only [hr, and_self, if_true]

/-- what TenthsOf reckons in 64 bits ahead of the floor -/
def tenV (R : Nat) : Option Nat := cop .add .f64 (cop .mul .f64 (logC R) (some 4631308968768463603)) (some 4602678819172646912)
theorem tenV_Fb (R : Nat) (h1 : 3936146074321813504 ≤ R) (h2 : R < 5183643171103440896) : Fb .f64 (tenV R) 16 := by
  have a := Fb.mul (logC_Fb R h1 h2) (Fb.of (Lb_rung (x := 4631308968768463603) (T := 6) (by omega) (by omega) (by omega) (by decide))) (inR (by omega) (by omega))
  exact Fb.add a (Fb.of (Lb_rung (x := 4602678819172646912) (T := 15) (by omega) (by omega) (by omega) (by decide))) (inR (by omega) (by omega))
/-- the floor of it -/
def tenF (R : Nat) : Nat := FloatKind.f64.encode ((FloatKind.f64.decode ((tenV R).getD 0)).integral .down)
def tenI (R : Nat) : Int := (floatToIntVal .f64 (tenF R) .i64).getD 0
theorem ten_facts (R : Nat) (h1 : 3936146074321813504 ≤ R) (h2 : R < 5183643171103440896) : ∃ v, tenV R = some v ∧ cn .f64 v = some v ∧ tenF R = FloatKind.f64.encode ((FloatKind.f64.decode v).integral .down) ∧ floatToIntVal .f64 (tenF R) .i64 = some (tenI R) ∧ -262144 ≤ tenI R ∧ tenI R ≤ 262144 := by
  obtain ⟨v, hv, hd⟩ := tenV_Fb R h1 h2
  have hF : tenF R = FloatKind.f64.encode ((FloatKind.f64.decode v).integral .down) := by unfold tenF; rw [hv]; rfl
  have h3 := write_Db .f64 (hd.integral .down (by omega)) (inR (by omega) (by omega))
  rw [← hF] at h3
  obtain ⟨n, hn, l, u⟩ := Fb.toInt h3 (by omega) (by omega)
  have hI : tenI R = n := by unfold tenI; rw [hn]; rfl
  refine ⟨v, hv, ?_, hF, by rw [hn, hI], ?_, ?_⟩
  · obtain ⟨s, m, e, he, _⟩ := hd
    unfold cn; rw [he]; rfl
  · rw [hI]; simp at l; omega
  · rw [hI]; simp at u; omega

/-- the tenths of decibels of a 32-bit number that is finite and greater than 0 -/
def tenC : Option Nat → Int
  | some x => tenI ((cconv .f32 .f64 (some x)).getD 0)
  | none => 0

theorem posC_some {x : Nat} (hx : x < 4294967296) (h : posC (cn .f32 x) = true) : 0 < x ∧ x < 2139095040 ∧ cn .f32 x = some x := by
  rcases cn_cases .f32 x with c | c
  · rw [c] at h; cases h
  · rw [c] at h
    unfold posC at h
    rw [isFin_some hx c, Bool.and_eq_true, decide_eq_true_eq] at h
    have o : cord .f32 (some x) (some 0) = FloatKind.f32.format.order x 0 := rfl
    rw [o, ord0 hx c] at h
    obtain ⟨h1, h2⟩ := h
    by_cases z : x % 2147483648 = 0
    · rw [if_pos z] at h2; cases h2
    · rw [if_neg z] at h2
      by_cases n : 2147483648 ≤ x
      · rw [if_pos n] at h2; cases h2
      · exact ⟨by omega, by omega, c⟩

/-- a conversion that the language fixes -/
theorem conv_int (v : Nat) (n : Int) (h : floatToIntVal .f64 v .i64 = some n) (w : World) : (convert 46 2 (.float .f64 v)).run Tryz.prog w = .ok (.int .i64 n) w :=
  run_convert_float_int w 46 2 .f64 .i64 v n (by rw [Tryz.underlying46]; rfl) Tryz.underlying2 h

theorem lit43_cn : cn .f64 4631308968768463603 = some 4631308968768463603 := by decide
theorem half_cn : cn .f64 4602678819172646912 = some 4602678819172646912 := by decide

def tenB (b : Bool) (n : Int) : Int := if b then n else 0

theorem Fs_one (w : World) (x : Nat) (T : TypeId) : Fs (w.alloc (.cells #[.float .f32 x] T)) (some ⟨w.heap.size, 0, none⟩) [x] := by
  refine .inr ⟨w.heap.size, 0, rfl, by simp, fun j hj => ?_⟩
  have : j = 0 := by simpa using hj
  subst this
  simp

end Go.Proofs.YtkemghecglbleaaGreatDoor
