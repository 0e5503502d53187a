/- What BoxLevels gives on both sides. -/
import Derived.Test.YtkdojogjalkddaaSw
namespace Go.Proofs.Ytkdojogjalkddaa
set_option maxRecDepth 100000
set_option linter.unusedVariables false
open Go.RowKit

/-- a number of rows times pi -/
def piE (i : Nat) : Nat := (cop .mul .f32 (some (floatOfInt .f32 ((i : Int) + 1))) (some 1078530011)).getD 0
theorem pi_tab : ∀ i : Fin 49, cop .mul .f32 (some (floatOfInt .f32 ((i.val : Int) + 1))) (some 1078530011) = some (piE i.val) ∧ piE i.val < 2139095040 := by decide +kernel
/-- a quotient by a finite number that is not zero is a number -/
theorem quo_num {x y : Nat} (hx : x < 2139095040) (hy0 : 0 < y) (hy : y < 2139095040) : ∃ r, cop .quo .f32 (some x) (some y) = some r := by
  obtain ⟨m, e, hd, _⟩ := read_num .f32 x (by rw [f32_sign]; omega) (by rw [f32_sign, f32_inf, Nat.mod_eq_of_lt (by omega)]; exact hx)
  obtain ⟨n, j, hq, hv⟩ := read_num .f32 y (by rw [f32_sign]; omega) (by rw [f32_sign, f32_inf, Nat.mod_eq_of_lt (by omega)]; exact hy)
  have hn : n ≠ 0 := by
    intro q
    subst q
    rw [f32_sign, Nat.mod_eq_of_lt (by omega), Nat.zero_mul] at hv
    have h1 := rval_lt FloatKind.f32.format.binade (by decide) hy0
    rw [rval_zero _ (by decide)] at h1
    omega
  have hu : FloatKind.f32.format.div x y = ((FloatKind.f32.decode x).quotient (FloatKind.f32.format.fractionBits + 2) (FloatKind.f32.decode y)).map FloatKind.f32.format.write := rfl
  show ∃ r, FloatKind.f32.format.div x y = some r
  rw [hu, hd, hq]
  simp only [Ieee.Datum.quotient, if_neg hn]
  exact ⟨_, rfl⟩
/-- the square of a number is a number -/
theorem sq_num {x : Nat} (c : cn .f32 x = some x) : ∃ r, cop .mul .f32 (some x) (some x) = some r := by
  have hu : FloatKind.f32.format.mul x x = ((FloatKind.f32.decode x).product (FloatKind.f32.decode x)).map FloatKind.f32.format.write := rfl
  show ∃ r, FloatKind.f32.format.mul x x = some r
  rw [hu]
  unfold cn at c
  cases hd : FloatKind.f32.decode x with
  | nan g t => rw [hd] at c; cases c
  | infinity g => exact ⟨_, rfl⟩
  | number g m e => exact ⟨_, rfl⟩
def bxQ (width i : Nat) : Nat := (cop .quo .f32 (some (piE i)) (some width)).getD 0
def bxE (width i : Nat) : Nat := (cop .mul .f32 (some (bxQ width i)) (some (bxQ width i))).getD 0
def bxL (width n : Nat) : List Nat := (List.range n).map (bxE width)
theorem bxL_snoc (width n : Nat) : bxL width (n + 1) = bxL width n ++ [bxE width n] := by unfold bxL; rw [List.range_succ, List.map_append]; rfl
theorem bxL_len (width n : Nat) : (bxL width n).length = n := by unfold bxL; simp
theorem run_pi {i : Nat} (hi : i < 49) (t : TypeId) (w : World) :
    (binOp .mul t (.float .f32 (floatOfInt .f32 ((i : Int) + 1))) (.float .f32 1078530011)).run Try.prog w = .ok (.float .f32 (piE i)) w :=
  run_float_arith w .mul t .f32 _ _ _ (pi_tab ⟨i, hi⟩).1
theorem quo_is {width i : Nat} (h0 : 0 < width) (hr : width < 2139095040) (hi : i < 49) : cop .quo .f32 (some (piE i)) (some width) = some (bxQ width i) := by
  obtain ⟨r, h⟩ := quo_num (pi_tab ⟨i, hi⟩).2 h0 hr
  dsimp only at h
  unfold bxQ; rw [h]; rfl
theorem run_bxQ {width i : Nat} (h0 : 0 < width) (hr : width < 2139095040) (hi : i < 49) (t : TypeId) (w : World) :
    (binOp .quo t (.float .f32 (piE i)) (.float .f32 width)).run Try.prog w = .ok (.float .f32 (bxQ width i)) w :=
  run_float_arith w .quo t .f32 _ _ _ (quo_is h0 hr hi)
theorem run_bxE {width i : Nat} (h0 : 0 < width) (hr : width < 2139095040) (hi : i < 49) (t : TypeId) (w : World) :
    (binOp .mul t (.float .f32 (bxQ width i)) (.float .f32 (bxQ width i))).run Try.prog w = .ok (.float .f32 (bxE width i)) w := by
  have c : cn .f32 (bxQ width i) = some (bxQ width i) := floatBits_cn (op := .quo) (k := .f32) (quo_is h0 hr hi)
  obtain ⟨r, h⟩ := sq_num c
  have e : bxE width i = r := by unfold bxE; rw [h]; rfl
  rw [e]
  exact run_float_arith w .mul t .f32 _ _ _ h

theorem bxE_lt (width i : Nat) : bxE width i < 4294967296 := by
  unfold bxE
  cases h : cop .mul .f32 (some (bxQ width i)) (some (bxQ width i)) with
  | none => simp
  | some r =>
    have := wf_sign (floatBits_wf (op := .mul) (k := .f32) h)
    rw [f32_sign] at this
    simp; omega

theorem bxL_mem (width n : Nat) : ∀ x ∈ bxL width n, x < 4294967296 := by
  intro x hx
  unfold bxL at hx
  obtain ⟨i, _, rfl⟩ := List.mem_map.1 hx
  exact bxE_lt width i
theorem few_words {L : List Nat} {n : Nat} (hl : L.length = n) (hn : n ≤ 48) (hx : ∀ x ∈ L, x < 4294967296) (b : Bool) : (if b then L else []).length ≤ 48 ∧ ∀ j, j < (if b then L else []).length → (if b then L else []).getD j 0 < 4294967296 := by
  cases b with
  | false => simp
  | true =>
    simp only [if_true]
    refine ⟨by omega, fun j hj => ?_⟩
    rw [List.getD_eq_getElem?_getD, List.getElem?_eq_getElem hj]
    exact hx _ (List.getElem_mem hj)
end Go.Proofs.Ytkdojogjalkddaa
