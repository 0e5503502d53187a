/- What SwingLevels gives on both sides. -/
import Derived.Test.YtkdojogjalkddaaAp
import Derived.Test.YtkdojogjalkddaaZa
import Derived.Test.YtkdojogjalkddaaTn
import Derived.Lib.AppendZeros
namespace Go.Proofs.Ytkdojogjalkddaa
set_option maxRecDepth 100000
set_option linter.unusedVariables false
open Go.RowKit

theorem odd_tab : ∀ i : Fin 49, floatOfInt .f32 (2 * ((i.val : Int) + 1) - 1) < 2139095040 := by decide +kernel
/-- a product of finite numbers is a number -/
theorem mul_num {x y : Nat} (hx : x < 2139095040) (hy : y < 2139095040) : ∃ r, cop .mul .f32 (some x) (some y) = some r := by
  obtain ⟨m, e, hd, _⟩ := read_num .f32 x (by rw [f32_sign]; omega) (by rw [f32_sign, f32_inf, Nat.mod_eq_of_lt (by omega)]; exact hx)
  obtain ⟨n, j, hq, _⟩ := read_num .f32 y (by rw [f32_sign]; omega) (by rw [f32_sign, f32_inf, Nat.mod_eq_of_lt (by omega)]; exact hy)
  have hu : FloatKind.f32.format.mul x y = ((FloatKind.f32.decode x).product (FloatKind.f32.decode y)).map FloatKind.f32.format.write := rfl
  refine ⟨FloatKind.f32.format.write (.number (sgn .f32 x ^^ sgn .f32 y) (m * n) (e + j)), ?_⟩
  show FloatKind.f32.format.mul x y = _
  rw [hu, hd, hq]
  rfl
def swE (rate i : Nat) : Nat := (cop .mul .f32 (some rate) (some (floatOfInt .f32 (2 * ((i : Int) + 1) - 1)))).getD 0
def swL (rate n : Nat) : List Nat := (List.range n).map (swE rate)
theorem swL_snoc (rate n : Nat) : swL rate (n + 1) = swL rate n ++ [swE rate n] := by unfold swL; rw [List.range_succ, List.map_append]; rfl
theorem swL_len (rate n : Nat) : (swL rate n).length = n := by unfold swL; simp
theorem run_swE {rate i : Nat} (hr : rate < 2139095040) (hi : i < 49) (t : TypeId) (w : World) :
    (binOp .mul t (.float .f32 rate) (.float .f32 (floatOfInt .f32 (2 * ((i : Int) + 1) - 1)))).run Try.prog w = .ok (.float .f32 (swE rate i)) w := by
  obtain ⟨r, h⟩ := mul_num hr (odd_tab ⟨i, hi⟩)
  dsimp only at h
  have e : swE rate i = r := by unfold swE; rw [h]; rfl
  rw [e]
  exact run_float_arith w .mul t .f32 _ _ _ h

theorem Ow.drewN {w : World} {base : Nat} {v : Value} {xs : List Nat} (h : Ow w base v xs) (n : Nat) : Ow (w.drewN n) base v xs := h
theorem Ow.alloc {w : World} {base : Nat} {v : Value} {xs : List Nat} (h : Ow w base v xs) (o : Obj) : Ow (w.alloc o) base v xs := World.ownsRow.alloc h o
theorem Ow_empty (w : World) (base : Nat) (h : base ≤ w.heap.size) : Ow (w.alloc (.cells #[] 32)) base (.slice (some ⟨w.heap.size, 0, none⟩) 0 0) [] := by
  refine ⟨rfl, .inr ⟨w.heap.size, 0, #[], rfl, h, heap_alloc_new w _, Nat.le_refl _, by simp, rfl, rfl⟩⟩

/-- a checked list -/
def ckV (v : Value) (b : Bool) : Value := .tuple #[if b then v else .slice none 0 0, .bool b]
theorem ckV_true (v : Value) : ckV v true = .tuple #[v, .bool true] := rfl
theorem ckV_false (v : Value) : ckV v false = .tuple #[.slice none 0 0, .bool false] := rfl

/-- what a checked list is: a slice of the call's own, or nil -/
def RetCk (xs : List Nat) (w : World) (e : Ending) (w' : World) : Prop := ∃ v, e = .returned (ckV v (allFin xs)) ∧ Ow w' w.heap.size v xs ∧ Below w.heap.size w w'

theorem Ow_empty2 (w : World) (base N : Nat) (h : base ≤ w.heap.size) (hN : w.heap.size = N) : Ow (w.alloc (.cells #[] 32)) base (.slice (some ⟨N, 0, none⟩) 0 0) [] := hN ▸ Ow_empty w base h
theorem size_up (w : World) (o : Obj) (n : Nat) : w.heap.size ≤ ((w.alloc o).drewN n).heap.size := by simp
theorem Fs_one' (w : World) (x : Nat) (T : TypeId) : Fs (w.alloc (.cells #[.float .f32 x] T)) (some ⟨w.heap.size, 0, none⟩) [x] := by
  refine .inr ⟨w.heap.size, 0, rfl, by simp, fun j hj => ?_⟩
  have : j = 0 := by simpa using hj
  subst this
  simp

/-- a result that is a slice of the call's own, and whether it counts -/
def RetOw (ys : List Nat) (b : Bool) (w : World) (e : Ending) (w' : World) : Prop := ∃ v, e = .returned (.tuple #[v, .bool b]) ∧ Ow w' w.heap.size v ys ∧ Below w.heap.size w w'
theorem Ow_nil (w : World) (base : Nat) : Ow w base (.slice none 0 0) [] := ⟨rfl, .inl ⟨rfl, rfl⟩⟩
theorem RetCk.ow {xs : List Nat} {w : World} {e : Ending} {w' : World} (h : RetCk xs w e w') : RetOw (if allFin xs then xs else []) (allFin xs) w e w' := by
  obtain ⟨v, rfl, hO, hB⟩ := h
  cases hx : allFin xs with
  | true => exact ⟨v, rfl, hO, hB⟩
  | false => exact ⟨_, rfl, Ow_nil _ _, hB⟩
theorem RetVB.ow {w : World} {e : Ending} {w' : World} (h : RetVB (.tuple #[.slice none 0 0, .bool false]) w e w') : RetOw [] false w e w' := by
  obtain ⟨rfl, hB⟩ := h
  exact ⟨_, rfl, Ow_nil _ _, hB⟩

theorem swE_lt (rate i : Nat) : swE rate i < 4294967296 := by
  unfold swE
  cases h : cop .mul .f32 (some rate) (some (floatOfInt .f32 (2 * ((i : Int) + 1) - 1))) with
  | none => simp
  | some r =>
    have := wf_sign (floatBits_wf (op := .mul) (k := .f32) h)
    rw [f32_sign] at this
    simp; omega

theorem Ow.Fs' {w : World} {base : Nat} {a : Option Addr} {n cap : Nat} {xs : List Nat} (h : Ow w base (.slice a n cap) xs) : Proofs.Ytkdojogjalkddaa.Fs w a xs := by
  obtain ⟨a2, c2, e, hF, _⟩ := h.Fs
  injection e with e1 e2 e3
  rw [e1]; exact hF

end Go.Proofs.Ytkdojogjalkddaa
