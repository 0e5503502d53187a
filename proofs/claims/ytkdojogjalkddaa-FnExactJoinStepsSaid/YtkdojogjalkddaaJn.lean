/- JoinSteps: what is joined, plainly. -/
import Derived.Test.YtkdojogjalkddaaTz
namespace Go.Proofs.Ytkdojogjalkddaa
set_option maxRecDepth 100000
set_option linter.unusedVariables false
open Go.RowKit

open Ieee in
theorem read_fin {x : Nat} (h : x % 2147483648 < 2139095040) : ∃ s m e, FloatKind.f32.format.read x = .number s m e := by
  have h1 : FloatKind.f32.format.signWeight = 2147483648 := by decide
  have h2 : FloatKind.f32.format.infRung = 2139095040 := by decide
  unfold Format.read
  rw [h1, h2]
  dsimp only
  split
  · exact ⟨_, _, _, rfl⟩
  · exact ⟨_, _, _, rfl⟩
open Ieee in
theorem sum_num {s : Bool} {m : Nat} {e : Int} {d : Datum} (h : d.isNaN = false) : (Datum.number s m e).sum d ≠ none ∧ d.sum (.number s m e) ≠ none := by
  cases d with
  | number t n f => exact ⟨by simp [Datum.sum], by simp [Datum.sum]⟩
  | infinity t => exact ⟨by simp [Datum.sum], by simp [Datum.sum]⟩
  | nan t n => cases h
theorem read_nn {y : Nat} (h : cn .f32 y = some y) : (FloatKind.f32.format.read y).isNaN = false := by
  unfold cn at h
  split at h
  · cases h
  · rename_i q; simpa [FloatKind.decode] using q
open Ieee in
theorem opp_num {d : Datum} (h : d.isNaN = false) : d.opposite.isNaN = false := by cases d <;> first | rfl | cases h
/-- adding to a number that is none infinite gives a number -/
theorem add_num {x y : Nat} (hx : x < 4294967296) (hf : isFin (cn .f32 x) = true) (hy : cn .f32 y = some y) : ∃ v, cop .add .f32 (some x) (some y) = some v ∧ cn .f32 v = some v ∧ v < 4294967296 := by
  obtain ⟨s, m, e, hr⟩ := read_fin (fin_rung hx hf)
  have hs := (sum_num (s := s) (m := m) (e := e) (read_nn hy)).1
  rw [← hr] at hs
  cases hc : cop .add .f32 (some x) (some y) with
  | none =>
    simp only [cop, floatBits, Ieee.Format.add, Option.map_eq_none_iff] at hc
    exact absurd hc hs
  | some v => exact ⟨v, rfl, floatBits_cn (op := .add) (x := x) (y := y) hc, cop_lt v hc⟩
theorem sub_num {x y : Nat} (hy : y < 4294967296) (hf : isFin (cn .f32 y) = true) (hx : cn .f32 x = some x) : ∃ v, cop .sub .f32 (some x) (some y) = some v ∧ cn .f32 v = some v ∧ v < 4294967296 := by
  obtain ⟨s, m, e, hr⟩ := read_fin (fin_rung hy hf)
  cases hc : cop .sub .f32 (some x) (some y) with
  | none =>
    simp only [cop, floatBits, Ieee.Format.sub, Option.map_eq_none_iff] at hc
    rw [hr] at hc
    exact absurd hc (sum_num (read_nn hx)).2
  | some v => exact ⟨v, rfl, floatBits_cn (op := .sub) (x := x) (y := y) hc, cop_lt v hc⟩

/-- the shift -/
def mvN (x g y : Nat) : Nat := (cop .sub .f32 (cop .add .f32 (some x) (some g)) (some y)).getD 0
def agN (x g : Nat) : Nat := (cop .add .f32 (some x) (some g)).getD 0
theorem mv_is {x g y : Nat} (hx : x < 4294967296) (fx : isFin (cn .f32 x) = true) (hy : y < 4294967296) (fy : isFin (cn .f32 y) = true) (fg : isFin (cn .f32 g) = true) :
    cop .add .f32 (some x) (some g) = some (agN x g) ∧ cop .sub .f32 (some (agN x g)) (some y) = some (mvN x g y) ∧ cn .f32 (mvN x g y) = some (mvN x g y) := by
  obtain ⟨v, h1, h2, _⟩ := add_num hx fx (fin_cn fg)
  obtain ⟨u, h3, h4, _⟩ := sub_num hy fy h2
  have e : agN x g = v := by unfold agN; rw [h1]; rfl
  have e2 : mvN x g y = u := by unfold mvN; rw [h1, h3]; rfl
  rw [e, e2]
  exact ⟨h1, h3, h4⟩
/-- an edge, moved -/
def jnV (mo x : Nat) : Nat := (cop .add .f32 (some x) (some mo)).getD 0
theorem jn_is {mo x : Nat} (hx : x < 4294967296) (fx : isFin (cn .f32 x) = true) (hm : cn .f32 mo = some mo) : cop .add .f32 (some x) (some mo) = some (jnV mo x) := by
  obtain ⟨v, h1, _, _⟩ := add_num hx fx hm
  unfold jnV
  rw [h1]; rfl
theorem jnV_lt (mo x : Nat) : jnV mo x < 4294967296 := by
  unfold jnV
  cases h : cop .add .f32 (some x) (some mo) with
  | none => simp
  | some v => exact cop_lt v h
/-- the edges and the heights when k more are laid -/
def jnE (xs xs' : List Nat) (mo k : Nat) : List Nat := xs ++ (List.range k).map fun j => jnV mo (xs'.getD j 0)
def jnH (ys ys' : List Nat) (k : Nat) : List Nat := ys ++ (List.range k).map fun j => ys'.getD (j + 1) 0
theorem jnE_snoc (xs xs' : List Nat) (mo k : Nat) : jnE xs xs' mo (k + 1) = jnE xs xs' mo k ++ [jnV mo (xs'.getD k 0)] := by unfold jnE; rw [List.range_succ, List.map_append, List.append_assoc]; rfl
theorem jnH_snoc (ys ys' : List Nat) (k : Nat) : jnH ys ys' (k + 1) = jnH ys ys' k ++ [ys'.getD (k + 1) 0] := by unfold jnH; rw [List.range_succ, List.map_append, List.append_assoc]; rfl
theorem jnE_len (xs xs' : List Nat) (mo k : Nat) : (jnE xs xs' mo k).length = xs.length + k := by unfold jnE; simp
theorem jnH_len (ys ys' : List Nat) (k : Nat) : (jnH ys ys' k).length = ys.length + k := by unfold jnH; simp
theorem jnE_0 (xs xs' : List Nat) (mo : Nat) : jnE xs xs' mo 0 = xs := by unfold jnE; simp
theorem jnH_0 (ys ys' : List Nat) : jnH ys ys' 0 = ys := by unfold jnH; simp
theorem getD_append_right' (l m : List Nat) (j : Nat) (h : l.length ≤ j) : (l ++ m).getD j 0 = m.getD (j - l.length) 0 := by simp [List.getD_eq_getElem?_getD, List.getElem?_append_right h]
theorem getD_append_left' (l m : List Nat) (j : Nat) (h : j < l.length) : (l ++ m).getD j 0 = l.getD j 0 := by simp [List.getD_eq_getElem?_getD, List.getElem?_append_left h]
theorem jnE_lt {xs xs' : List Nat} {mo k : Nat} (hw : ∀ j, j < xs.length → xs.getD j 0 < 4294967296) (j : Nat) (hj : j < (jnE xs xs' mo k).length) : (jnE xs xs' mo k).getD j 0 < 4294967296 := by
  rw [jnE_len] at hj
  unfold jnE
  by_cases h : j < xs.length
  · rw [getD_append_left' _ _ _ h]; exact hw j h
  · rw [getD_append_right' _ _ _ (by omega)]
    have : j - xs.length < k := by omega
    simp [this]
    exact jnV_lt _ _
theorem jnH_lt {ys ys' : List Nat} {k : Nat} (hw : ∀ j, j < ys.length → ys.getD j 0 < 4294967296) (hw2 : ∀ j, j < ys'.length → ys'.getD j 0 < 4294967296) (hk : k + 1 ≤ ys'.length) (j : Nat) (hj : j < (jnH ys ys' k).length) : (jnH ys ys' k).getD j 0 < 4294967296 := by
  rw [jnH_len] at hj
  unfold jnH
  by_cases h : j < ys.length
  · rw [getD_append_left' _ _ _ h]; exact hw j h
  · rw [getD_append_right' _ _ _ (by omega)]
    have h2 : j - ys.length < k := by omega
    have := hw2 (j - ys.length + 1) (by omega)
    simp only [List.getD_eq_getElem?_getD] at this
    simpa [h2] using this

/-- the same height where they meet -/
def jnS (xs ys ys' : List Nat) : Bool := decide (cn .f32 (ys.getD xs.length 0) = cn .f32 (ys'.getD 0 0))
/-- when the two can be joined -/
def jnB (xs ys xs' ys' : List Nat) (g : Nat) : Bool := vsB xs ys && (vsB xs' ys' && (posC (cn .f32 g) && (decide (xs ≠ []) && (decide (xs' ≠ []) && jnS xs ys ys'))))
def jnM (xs xs' : List Nat) (g : Nat) : Nat := mvN (xs.getD (xs.length - 1) 0) g (xs'.getD 0 0)
end Go.Proofs.Ytkdojogjalkddaa
