/- Copies of slices of 32-bit numbers, and comparing them: what the statements themselves do. -/
import Derived.Test.YtkemghecglbleaaGreatDoorSl
import Derived.Test.YtkemghecglbleaaGreatDoorYa
import Derived.Laws.MakeOwn
import Derived.Laws.Tables
import Derived.Lib.Hide
import Derived.Deep.QuietTactic
import Derived.BigQuiet
import Derived.Deep.RegionWith
namespace Go.Proofs.YtkemghecglbleaaGreatDoor
set_option maxRecDepth 100000
open Go.RowKit

/-- a block that holds these numbers and nothing else -/
def Rw (w : World) (b : Nat) (xs : List Nat) : Prop := w.heap[b]? = some (.cells (xs.map (Value.float .f32)).toArray 28 (0, 0))

theorem Rw.cell {w : World} {b : Nat} {xs : List Nat} (h : Rw w b xs) {j : Nat} (hj : j < xs.length) : w.cell? ⟨b, j, none⟩ = some (.float .f32 (xs.getD j 0)) := by
  unfold Rw at h
  simp [World.cell?, h, hj]
theorem Rw.thawed {w : World} {b : Nat} {xs : List Nat} (h : Rw w b xs) (j : Nat) : w.frozen? ⟨b, j, none⟩ = false := by
  unfold Rw at h
  simp [World.frozen?, h]
theorem Rw.lt {w : World} {b : Nat} {xs : List Nat} (h : Rw w b xs) : b < w.heap.size := by
  unfold Rw at h
  exact (Array.getElem?_eq_some_iff.1 h).1
theorem Rw.Fs {w : World} {b : Nat} {xs : List Nat} (h : Rw w b xs) : Fs w (some ⟨b, 0, none⟩) xs :=
  .inr ⟨b, 0, rfl, h.lt, fun j hj => by rw [Nat.zero_add]; exact h.cell hj⟩
theorem Rw.set {w : World} {b : Nat} {xs : List Nat} (h : Rw w b xs) (j x : Nat) : Rw (w.setCell ⟨b, j, none⟩ (.float .f32 x)) b (xs.set j x) := by
  unfold Rw at h ⊢
  rw [setCell_eq_setRow w b j _ _ (0, 0) _ h, setRow_heap w b _ _ _ (0, 0) h]
  simp [List.map_set]
theorem Rw.drewN {w : World} {b : Nat} {xs : List Nat} (h : Rw w b xs) (n : Nat) : Rw (w.drewN n) b xs := h
theorem Rw.below {w w' : World} {b : Nat} {xs : List Nat} (h : Rw w b xs) (hb : Below w.heap.size w w') : Rw w' b xs := by
  unfold Rw at h ⊢
  rw [hb.block b (Rw.lt h)]; exact h

theorem made_zeros (n : Nat) : madeCells #[Value.float .f32 0] n = ((List.replicate n 0).map (Value.float .f32)).toArray := by
  apply Array.ext
  · simp [madeCells]
  · intro i h1 h2
    simp [madeCells, Nat.mod_one]

theorem run_make32 (n : Nat) (hn : n ≤ 1048576) (w : World) : (Instr.makeSlice 90 (.int .i64 n) (.int .i64 n)).run Tryz.prog w = .ok (.slice (some ⟨w.heap.size, 0, none⟩) n n) (w.alloc (.cells ((List.replicate n 0).map (Value.float .f32)).toArray 28)) := by
  have hi : (Tryz.prog.info? 28).map (fun i => (i.zero, i.size, i.bytes)) = some (some (.float .f32 0), 1, 4) := by kernel_rfl
  obtain ⟨i, hi1, hi2⟩ := Option.map_eq_some_iff.1 hi
  injection hi2 with z1 hi3
  injection hi3 with z2 z3
  have h := run_make (P := Tryz.prog) w 90 28 i (.float .f32 0) Tryz.underlying90 hi1 z1 .i64 .i64 n n (by omega) (by omega) (by rw [z3]; omega) (by omega)
  rw [h, z2, Nat.mul_one]
  simp only [Int.toNat_natCast]
  rw [← made_zeros]
  rfl

theorem run_store32 {w : World} {p : Addr} {u : Value} (x : Nat) (hc : w.cell? p = some u) (hf : w.frozen? p = false) : (store p (.float .f32 x)).run Tryz.prog w = .ok () (w.setCell p (.float .f32 x)) := by
  rw [run_store Tryz.prog w p (.float .f32 x) .plain rfl, hc, hf]; rfl
theorem take_set {α : Type} (l xs : List α) (k : Nat) (x d : α) (hk : k < l.length) (hk2 : k < xs.length) (h : l.take k = xs.take k) (hx : x = xs.getD k d) : (l.set k x).take (k + 1) = xs.take (k + 1) := by
  rw [List.take_succ_eq_append_getElem (by simpa using hk), List.take_succ_eq_append_getElem hk2, List.take_set_of_le (Nat.le_refl _), h]
  simp only [List.getElem_set_self]
  rw [hx, List.getD_eq_getElem?_getD, List.getElem?_eq_getElem hk2]
  rfl
theorem Rw_new (w : World) (xs : List Nat) : Rw (w.alloc (.cells (xs.map (Value.float .f32)).toArray 28)) w.heap.size xs := heap_alloc_new w _
theorem Rw_zeros (w : World) (n : Nat) : Rw (w.alloc (.cells (Array.replicate n (Value.float .f32 0)) 28)) w.heap.size (List.replicate n 0) := by
  have h := Rw_new w (List.replicate n 0)
  simp only [List.map_replicate, List.toArray_replicate] at h
  exact h

def RetFresh (xs : List Nat) (w : World) (e : Ending) (w' : World) : Prop := ∃ b, e = .returned (.slice (some ⟨b, 0, none⟩) xs.length xs.length) ∧ w.heap.size ≤ b ∧ Rw w' b xs ∧ Below w.heap.size w w'

theorem run_up_num (x X : Nat) (c : cn .f32 x = some x) (e : cconv .f32 .f64 (some x) = some X) (w : World) : (convert 28 46 (.float .f32 x)).run Tryz.prog w = .ok (.float .f64 X) w := by
  obtain ⟨u, hs'⟩ : ∃ u, Tryz.prog.underlying 28 = some u := ⟨_, Tryz.underlying28⟩
  have hd := Tryz.underlying46
  simp only [cconv, Option.some.injEq] at e
  cases hx : FloatKind.f32.decode x with
  | nan g t => unfold cn at c; rw [hx] at c; cases c
  | infinity g =>
    rw [hx] at e
    dsimp only at e
    rw [← e]
    cases u <;> (simp [convert, run_underlying hs', run_underlying hd, Conv.floatToFloat, hx]; try rfl)
  | number g m ex =>
    rw [hx] at e
    dsimp only at e
    have hfit := fits_up (cn .f32 x)
    rw [c] at hfit
    have hfit := hfit g m ex hx
    rw [← e]
    cases u <;> (simp [convert, run_underlying hs', run_underlying hd, Conv.floatToFloat, hx, hfit]; try rfl)

/-- which not-a-number a world gives -/
def nanv (x : Nat) (w : World) : Nat := Question.cut (.nanConv .f64 x) (w.tape w.drawn (.nanConv .f64 x))
theorem nanv_eq (x y : Nat) (w w2 : World) : cn .f64 (nanv x w) = cn .f64 (nanv y w2) := (cut_nanConv .f64 x _).trans (cut_nanConv .f64 y _).symm
theorem run_up_nan (x : Nat) (c : cn .f32 x = none) (w : World) : (convert 28 46 (.float .f32 x)).run Tryz.prog w = .ok (.float .f64 (nanv x w)) w.drew := by
  obtain ⟨u, hs'⟩ : ∃ u, Tryz.prog.underlying 28 = some u := ⟨_, Tryz.underlying28⟩
  have hd := Tryz.underlying46
  cases hx : FloatKind.f32.decode x with
  | nan g t => cases u <;> (simp [convert, run_underlying hs', run_underlying hd, Conv.floatToFloat, hx, choose, Sem.run, Question.forced]; rfl)
  | infinity g => unfold cn at c; rw [hx] at c; cases c
  | number g m e => unfold cn at c; rw [hx] at c; cases c

/-- some draws later -/
def Dr (w w' : World) : Prop := ∃ n, w' = w.drewN n
theorem Dr.drewN {w w' : World} (h : Dr w w') (n : Nat) : Dr w (w'.drewN n) := by obtain ⟨m, e⟩ := h; exact ⟨m + n, by rw [e]; simp⟩
theorem Dr.drew {w w' : World} (h : Dr w w') : Dr w w'.drew := by obtain ⟨m, e⟩ := h; exact ⟨m + 1, by rw [e]; simp⟩

theorem RetV.quiet {v : Value} {w : World} {n : Nat} (e : Ending) (w' : World) (h : RetV v (w.drewN n) e w') : e = .returned v ∧ ∃ m, w' = (w.drewN n).drewN m := by
  obtain ⟨m, h1, h2⟩ := h
  exact ⟨h1, m, h2⟩

end Go.Proofs.YtkemghecglbleaaGreatDoor
