/- What BendLevels gives on both sides. -/
import Derived.Test.YtkdojogjalkddaaBx
namespace Go.Proofs.Ytkdojogjalkddaa
set_option maxRecDepth 100000
set_option linter.unusedVariables false
open Go.RowKit

/-- a level of the bent kind -/
def bnX (i : Nat) : Option Nat := cop .add .f32 (cn .f32 (floatOfInt .f32 (i : Int))) (cn .f32 1056964608)
def bnD (rate bend : Option Nat) (i : Nat) : Option Nat := cop .sub .f32 (cop .mul .f32 rate (bnX i)) (cop .mul .f32 (cop .mul .f32 bend (bnX i)) (bnX i))
def gtC (c d : Option Nat) : Bool := cord .f32 c d == some .gt
/-- how many there are -/
def bnN (rate bend : Option Nat) : Nat → Nat → Nat
  | 0, k => k
  | f + 1, k => if k = 0 ∨ gtC (bnD rate bend k) (bnD rate bend (k - 1)) = true then bnN rate bend f (k + 1) else k
theorem bnN_yes {rate bend : Option Nat} {k : Nat} (hk : k < 48) (h : k = 0 ∨ gtC (bnD rate bend k) (bnD rate bend (k - 1)) = true) : bnN rate bend (48 - k) k = bnN rate bend (48 - (k + 1)) (k + 1) := by
  obtain ⟨f, hf⟩ : ∃ f, 48 - k = f + 1 := ⟨48 - k - 1, by omega⟩
  rw [hf, show 48 - (k + 1) = f by omega]
  show (if _ then _ else _) = _
  rw [if_pos h]
theorem bnN_no {rate bend : Option Nat} {k : Nat} (hk : k < 48) (h : ¬ (k = 0 ∨ gtC (bnD rate bend k) (bnD rate bend (k - 1)) = true)) : bnN rate bend (48 - k) k = k := by
  obtain ⟨f, hf⟩ : ∃ f, 48 - k = f + 1 := ⟨48 - k - 1, by omega⟩
  rw [hf]
  show (if _ then _ else _) = _
  rw [if_neg h]
def bnL (rate bend : Option Nat) (n : Nat) : List (Option Nat) := (List.range n).map (bnD rate bend)
theorem bnL_snoc (rate bend : Option Nat) (n : Nat) : bnL rate bend (n + 1) = bnL rate bend n ++ [bnD rate bend n] := by unfold bnL; rw [List.range_succ, List.map_append]; rfl

/-- a checked list of numbers that are told up to which not-a-number -/
def RetCn (cs : List (Option Nat)) (w : World) (e : Ending) (w' : World) : Prop := ∃ v xs, e = .returned (ckV v (allFin xs)) ∧ Ow w' w.heap.size v xs ∧ xs.map (cn .f32) = cs ∧ Below w.heap.size w w'
theorem allFin_cs (xs : List Nat) : allFin xs = (xs.map (cn .f32)).all isFin := by unfold allFin; rw [List.all_map]; rfl
theorem fin_raw (xs : List Nat) (h : allFin xs = true) : xs = (xs.map (cn .f32)).map (fun c => c.getD 0) := by
  induction xs with
  | nil => rfl
  | cons x t ih =>
    unfold allFin at h ih
    simp only [List.all_cons, Bool.and_eq_true] at h
    simp only [List.map_cons]
    rw [← ih h.2]
    rcases cn_cases .f32 x with c | c
    · rw [c] at h; cases h.1
    · rw [c]; rfl
theorem RetCn.ow {cs : List (Option Nat)} {w : World} {e : Ending} {w' : World} (h : RetCn cs w e w') : RetOw (if cs.all isFin then cs.map (fun c => c.getD 0) else []) (cs.all isFin) w e w' := by
  obtain ⟨v, xs, rfl, hO, rfl, hB⟩ := h
  rw [← allFin_cs]
  cases hx : allFin xs with
  | true => exact ⟨v, rfl, by rw [← fin_raw xs hx]; exact hO, hB⟩
  | false => exact ⟨_, rfl, Ow_nil _ _, hB⟩
theorem Fs_two (w : World) (x y : Nat) (T : TypeId) : Fs (w.alloc (.cells #[.float .f32 x, .float .f32 y] T)) (some ⟨w.heap.size, 0, none⟩) [x, y] := by
  refine .inr ⟨w.heap.size, 0, rfl, by simp, fun j hj => ?_⟩
  have : j = 0 ∨ j = 1 := by simp at hj; omega
  rcases this with rfl | rfl <;> simp

theorem bad_both {p q : Bool} (h : (p && q) = false) : p = false ∨ (p = true ∧ q = false) := by cases p <;> cases q <;> simp at h ⊢
theorem bnN_le (rate bend : Option Nat) : ∀ (f k : Nat), bnN rate bend f k ≤ f + k := by
  intro f
  induction f with
  | zero => intro k; show k ≤ _; omega
  | succ f ih =>
    intro k
    show (if _ then _ else _) ≤ _
    split
    · have := ih (k + 1); omega
    · omega
theorem cop_lt {op : BinOp} {c d : Option Nat} (x : Nat) (h : cop op .f32 c d = some x) : x < 4294967296 := by
  cases c with
  | none => cases h
  | some a =>
    cases d with
    | none => cases h
    | some b =>
      have := wf_sign (floatBits_wf (op := op) (k := .f32) (x := a) (y := b) h)
      rw [f32_sign] at this
      omega
theorem bnL_mem (rate bend : Option Nat) (n : Nat) : ∀ x ∈ (bnL rate bend n).map (fun c => c.getD 0), x < 4294967296 := by
  intro x hx
  unfold bnL at hx
  rw [List.map_map] at hx
  obtain ⟨i, _, rfl⟩ := List.mem_map.1 hx
  show (bnD rate bend i).getD 0 < _
  cases h : bnD rate bend i with
  | none => simp
  | some v => exact cop_lt v h

end Go.Proofs.Ytkdojogjalkddaa
