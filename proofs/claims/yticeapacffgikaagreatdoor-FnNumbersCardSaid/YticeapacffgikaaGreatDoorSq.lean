/- Plain laws of floating-point numbers: the square root. No condition. -/
import Derived.Test.YticeapacffgikaaGreatDoorMag
import GoSem.Extern.MathSqrt
namespace Go.Proofs.YticeapacffgikaaGreatDoor
set_option maxRecDepth 100000

def csqrt : Option Nat → Option Nat
  | some x => FloatKind.f64.format.sqrt x
  | none => none

open Ieee in
theorem root_not_nan {n : Nat} {x d : Datum} (h : x.root n = some d) : d.isNaN = false := by
  unfold Datum.root at h
  split at h <;> first | (cases h; done) | skip
  · split at h <;> cases h; rfl
  · split at h
    · cases h; rfl
    · split at h <;> cases h; rfl

theorem sqrt_csqrt (x : Nat) : FloatKind.f64.format.sqrt x = csqrt (cn .f64 x) := by
  unfold cn
  cases hx : (FloatKind.f64.decode x).isNaN
  · simp [csqrt]
  · simp only [if_true, csqrt]
    unfold Ieee.Format.sqrt
    unfold FloatKind.decode at hx
    generalize FloatKind.f64.format.read x = a at hx
    cases a <;> simp [Ieee.Datum.isNaN] at hx
    rfl

theorem run_sqrt (P : Program) (w : World) (x : Nat) :
    ∃ r n, (Extern.MathSqrt.sqrt #[.float .f64 x]).run P w = .ok (.float .f64 r) (w.drewN n) ∧ FE .f64 r (csqrt (cn .f64 x)) := by
  cases h : FloatKind.f64.format.sqrt x with
  | some r =>
    refine ⟨r, 0, by show (match FloatKind.f64.format.sqrt x with | some r => (pure (.float .f64 r) : Sem Value) | none => do pure (.float .f64 (← choose (.nanBits .f64 x x)))).run P w = _; rw [h]; rfl, ?_, ?_⟩
    · rw [← sqrt_csqrt, h]
      unfold Ieee.Format.sqrt at h
      obtain ⟨d, hd, rfl⟩ := Option.map_eq_some_iff.1 h
      have := write_not_nan FloatKind.f64.format (root_not_nan hd)
      simp [cn, FloatKind.decode, this]
    · have := FloatKind.f64.format.sqrt_lt h
      rw [f64_sign]
      exact this
  | none =>
    refine ⟨Question.cut (.nanBits .f64 x x) (w.tape w.drawn (.nanBits .f64 x x)), 1, ?_, (cut_nanBits .f64 x x _).trans (by rw [← sqrt_csqrt, h]), cut_nanBits_lt .f64 x x _⟩
    show (match FloatKind.f64.format.sqrt x with | some r => (pure (.float .f64 r) : Sem Value) | none => do pure (.float .f64 (← choose (.nanBits .f64 x x)))).run P w = _
    rw [h]
    rfl

theorem rootFrom_lt (n : Nat) : ∀ (t root : Nat), Ieee.Datum.rootFrom n t root < root + 2 ^ t := by
  intro t
  induction t with
  | zero => intro root; unfold Ieee.Datum.rootFrom; omega
  | succ t ih =>
    intro root
    unfold Ieee.Datum.rootFrom
    have e : 2 ^ (t + 1) = 2 ^ t + 2 ^ t := by rw [Nat.pow_succ]; omega
    have hp : 0 < 2 ^ t := Nat.two_pow_pos t
    simp only [Nat.one_shiftLeft]
    split
    · have := ih (root + 2 ^ t); omega
    · have := ih root; omega

theorem log2_shift (m a : Nat) (hm : m ≠ 0) : (m <<< a).log2 = m.log2 + a := by
  rw [Nat.shiftLeft_eq]
  have h1 := Nat.log2_self_le hm
  have h2 := log2_lt m
  have hp : 0 < 2 ^ a := Nat.two_pow_pos _
  have hne : m * 2 ^ a ≠ 0 := Nat.mul_ne_zero hm (by omega)
  have lo : 2 ^ (m.log2 + a) ≤ m * 2 ^ a := by rw [Nat.pow_add]; exact Nat.mul_le_mul_right _ h1
  have hi : m * 2 ^ a < 2 ^ (m.log2 + a + 1) := by
    rw [show m.log2 + a + 1 = (m.log2 + 1) + a by omega, Nat.pow_add]; exact Nat.mul_lt_mul_of_pos_right h2 hp
  have a1 := (Nat.log2_lt hne).2 hi
  have a2 := (Nat.le_log2 hne).2 lo
  omega

open Ieee in
theorem Dl.root {x d : Datum} {q : Nat} {T : Int} (hx : Dl x T) (h : x.root q = some d) : Dl d (T / 2 + 1) := by
  obtain ⟨s, m, i, rfl, hx⟩ := hx
  unfold Datum.root at h
  dsimp only at h
  split at h
  · rename_i h0
    cases h
    exact ⟨s, m, i, rfl, .inl h0⟩
  · rename_i hm
    split at h
    · cases h
    · cases h
      refine ⟨_, _, _, rfl, ?_⟩
      have hx := hx.resolve_left hm
      generalize hmore : 2 * q - m.log2 + ((i - ((2 * q - m.log2 : Nat) : Int)) % 2).toNat = more
      have heven : (i - (more : Int)) % 2 = 0 := by omega
      have hl := log2_shift m more hm
      have hr := rootFrom_lt (m <<< more) ((m <<< more).log2 / 2 + 1) 0
      generalize Datum.rootFrom (m <<< more) ((m <<< more).log2 / 2 + 1) 0 = whole at hr
      have hb : ∀ b : Bool, b.toNat ≤ 1 := by decide
      have h1 := hb (whole * whole != m <<< more)
      rw [hl] at hr
      have : 2 * whole + (whole * whole != m <<< more).toNat < 2 ^ ((m.log2 + more) / 2 + 1 + 1) := by
        rw [Nat.pow_succ _ ((m.log2 + more) / 2 + 1)]; omega
      rcases log2_le_of_lt this with h | h
      · exact .inl h
      · right; omega

theorem Lg.csqrt {c : Option Nat} {T : Int} (hc : Lg .f64 c T) (h0 : 0 ≤ T) (h1 : T / 2 + 1 ≤ 1021) : Lg .f64 (csqrt c) (T / 2 + 2) := by
  intro r hr
  cases c with
  | none => cases hr
  | some x =>
    simp only [Proofs.YticeapacffgikaaGreatDoor.csqrt] at hr
    unfold Ieee.Format.sqrt at hr
    obtain ⟨e, he, rfl⟩ := Option.map_eq_some_iff.1 hr
    have := write_Dl .f64 (Dl.root (hc x rfl) he) (by omega) (by simp only [top]; omega)
    rwa [show T / 2 + 2 = T / 2 + 1 + 1 by omega]

/-- a 32-bit number that is finite, in 64 bits -/
theorem Lg_up {c : Option Nat} (h : ∀ x, c = some x → (FloatKind.f32.decode x).isInfinity = false ∧ (FloatKind.f32.decode x).isNaN = false) : Lg .f64 (cconv .f32 .f64 c) 128 := by
  intro X hX
  cases c with
  | none => cases hX
  | some x =>
    obtain ⟨h1, h2⟩ := h x rfl
    simp only [cconv, Option.some.injEq] at hX
    cases hd : FloatKind.f32.decode x with
    | nan => rw [hd] at h2; cases h2
    | infinity => rw [hd] at h1; cases h1
    | number g m e =>
      rw [hd] at hX
      dsimp only at hX
      subst hX
      have := decode_Dl .f32 x hd
      rw [hd] at this
      exact write_Dl .f64 this (by decide) (by decide)
end Go.Proofs.YticeapacffgikaaGreatDoor
