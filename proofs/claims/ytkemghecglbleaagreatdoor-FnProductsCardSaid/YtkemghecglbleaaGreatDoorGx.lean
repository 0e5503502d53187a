/- Slices of complex numbers of the call's own: grown, compared, marked. -/
import Derived.Test.YtkemghecglbleaaGreatDoorGn
import Derived.Test.YtkemghecglbleaaGreatDoorCx
namespace Go.Proofs.YtkemghecglbleaaGreatDoor
set_option maxRecDepth 100000
set_option linter.unusedVariables false
open Go.Lib Go.RowKit Go.Sort
def cval (z : Nat × Nat) : Value := .complex .f32 z.1 z.2
/-- a slice that reads as these complex numbers -/
def Zs (w : World) (a : Option Addr) (zs : List (Nat × Nat)) : Prop := zs = [] ∨ ∃ b, a = some ⟨b, 0, none⟩ ∧ b < w.heap.size ∧ ∀ j, j < zs.length → w.cell? ⟨b, j, none⟩ = some (cval (zs.getD j (0, 0)))
theorem Zs.below {w w' : World} {a : Option Addr} {zs : List (Nat × Nat)} (h : Zs w a zs) (hb : Below w.heap.size w w') : Zs w' a zs := by
  rcases h with h | ⟨b, rfl, h1, h2⟩
  · exact .inl h
  · exact .inr ⟨b, rfl, Nat.lt_of_lt_of_le h1 hb.size, fun j hj => (hb.cell (p := ⟨b, j, none⟩) h1).trans (h2 j hj)⟩
theorem Zs.drewN {w : World} {a : Option Addr} {zs : List (Nat × Nat)} (h : Zs w a zs) (n : Nat) : Zs (w.drewN n) a zs := h
theorem Zs.at {w : World} {a : Option Addr} {zs : List (Nat × Nat)} (h : Zs w a zs) {k : Nat} (hk : k < zs.length) : ∃ b, a = some ⟨b, 0, none⟩ ∧ w.cell? ⟨b, k, none⟩ = some (cval (zs.getD k (0, 0))) := by
  rcases h with h | ⟨b, rfl, h1, h2⟩
  · rw [h] at hk; cases hk
  · exact ⟨b, rfl, h2 k hk⟩
/-- a slice of the call's own -/
def Oz (w : World) (base : Nat) (v : Value) (zs : List (Nat × Nat)) : Prop := w.ownsRow base 24 1 v zs.length (zs.map cval)
theorem Oz.below {w w' : World} {b : Nat} {v : Value} {zs : List (Nat × Nat)} (h : Oz w b v zs) (hB : Below w.heap.size w w') : Oz w' b v zs := by
  refine ⟨h.1, ?_⟩
  rcases h.2 with q | ⟨g, c, cur, e, h1, h2, r⟩
  · exact .inl q
  · exact .inr ⟨g, c, cur, e, h1, by rw [hB.block g (Array.getElem?_eq_some_iff.1 h2).1]; exact h2, r⟩
theorem Oz.base {w : World} {b b' : Nat} {v : Value} {zs : List (Nat × Nat)} (h : Oz w b v zs) (hb : b' ≤ b) : Oz w b' v zs := by
  refine ⟨h.1, ?_⟩
  rcases h.2 with q | ⟨g, c, cur, e, h1, r⟩
  · exact .inl q
  · exact .inr ⟨g, c, cur, e, by omega, r⟩
theorem Oz_empty (w : World) (base : Nat) (h : base ≤ w.heap.size) : Oz (w.alloc (.cells #[] 24)) base (.slice (some ⟨w.heap.size, 0, none⟩) 0 0) [] := by
  refine ⟨rfl, .inr ⟨w.heap.size, 0, #[], rfl, h, heap_alloc_new w _, Nat.le_refl _, by simp, rfl, rfl⟩⟩
theorem Oz_nil (w : World) (base : Nat) : Oz w base (.slice none 0 0) [] := ⟨rfl, .inl ⟨rfl, rfl⟩⟩
theorem Oz.zs {w : World} {base : Nat} {v : Value} {zs : List (Nat × Nat)} (h : Oz w base v zs) : ∃ a cap, v = .slice a zs.length cap ∧ Zs w a zs ∧ (zs ≠ [] → ∃ g, a = some ⟨g, 0, none⟩ ∧ base ≤ g) := by
  obtain ⟨h1, ⟨rfl, h3⟩ | ⟨g, cap, cur, rfl, hb, hh, hn, hc, hs, ht⟩⟩ := h
  · have : zs = [] := List.eq_nil_of_length_eq_zero h3
    subst this
    exact ⟨none, 0, rfl, .inl rfl, fun q => absurd rfl q⟩
  · refine ⟨_, _, rfl, ?_, fun _ => ⟨g, rfl, hb⟩⟩
    refine .inr ⟨g, rfl, (Array.getElem?_eq_some_iff.1 hh).1, fun j hj => ?_⟩
    simp only [World.cell?, hh]
    have e : cur[j]? = (zs.map cval)[j]? := by
      rw [← ht, List.getElem?_take_of_lt (by omega)]
      simp
    simp [e, hj]
theorem Oz.zs' {w : World} {base : Nat} {a : Option Addr} {n cap : Nat} {zs : List (Nat × Nat)} (h : Oz w base (.slice a n cap) zs) : Proofs.YtkemghecglbleaaGreatDoor.Zs w a zs := by
  obtain ⟨a2, c2, e, hF, _⟩ := h.zs
  injection e with e1 e2 e3
  rw [e1]; exact hF
theorem run_pushZ (w : World) (base : Nat) (v : Value) (zs : List (Nat × Nat)) (x y : Nat) (h : Oz w base v zs) (hb : base ≤ w.heap.size) (hl : zs.length ≤ 1048576) (ty : TypeId) {a : Option Addr} {ws : List ByteArray} (hx : Sx w a ws v.ownBlock) :
    ∃ v' w', (Builtin.append_ #[25, 25] ty #[v, .slice (some ⟨w.heap.size, 0, none⟩) 1 1]).run Tryz.prog (w.alloc (.cells #[.complex .f32 x y] 24)) = .ok v' w' ∧ Oz w' base v' (zs ++ [(x, y)]) ∧ Below base w w' ∧ Sx w' a ws v'.ownBlock := by
  have h' : Oz (w.alloc (.cells #[.complex .f32 x y] 24)) base v zs := h.below ((Below.refl _ _).alloc (Nat.le_refl _) _)
  obtain ⟨i, hi, hz0, hz1, hz2⟩ := info_parts (P := Tryz.prog) (e := 24) (z := .complex .f32 0 0) (size := 1) (bytes := 8) (by kernel_rfl)
  obtain ⟨v', w', hr, h2, h3, _, h5⟩ := run_append_own_at (P := Tryz.prog) (w.alloc (.cells #[.complex .f32 x y] 24)) base 25 ty 24 i (.complex .f32 0 0) 1 8 Tryz.underlying25 hi hz0 hz1 hz2 rfl (by omega) v zs.length (zs.map cval) h' ⟨w.heap.size, 0, none⟩ 1 1 [.complex .f32 x y] rfl
    (fun j u hj => by
      cases j with
      | zero => simp at hj; subst hj; simp [Addr.add]
      | succ j => simp at hj) (fun u hu => by simp at hu; subst hu; rfl) (by unfold maxLen; omega) (by omega) (by simp; omega)
  refine ⟨v', w', hr, ?_, ((Below.refl base w).alloc hb _).grown h3 (by simp; omega) (fun k hk => ?_), (hx.below ((Below.refl _ _).alloc (Nat.le_refl _) _)).grown h3 h5⟩
  · unfold Oz
    rw [List.length_append, List.map_append]
    exact h2
  · rcases h.2 with ⟨rfl, _⟩ | ⟨g, c, cur, rfl, h1, _⟩
    · cases hk
    · have : g = k := by injection hk
      omega
theorem Oz.set {w : World} {base g cap : Nat} {zs : List (Nat × Nat)} (h : Oz w base (.slice (some ⟨g, 0, none⟩) zs.length cap) zs) {j : Nat} (hj : j < zs.length) (x : Nat × Nat) :
    (∃ u, w.cell? ⟨g, j, none⟩ = some u) ∧ w.frozen? ⟨g, j, none⟩ = false ∧ base ≤ g ∧ Oz (w.setCell ⟨g, j, none⟩ (cval x)) base (.slice (some ⟨g, 0, none⟩) zs.length cap) (zs.set j x) := by
  obtain ⟨h1, ⟨h2, h3⟩ | ⟨g', c, cur, h2, hb, hh, hn, hc, hs, ht⟩⟩ := h
  · cases h2
  · cases h2
    have hjc : j < cur.size := by omega
    refine ⟨⟨cur[j], by simp [World.cell?, hh, hjc]⟩, by simp [World.frozen?, hh], hb, ?_⟩
    unfold Oz
    rw [List.length_set]
    refine ⟨by simp, .inr ⟨g, cap, cur.setIfInBounds j (cval x), rfl, hb, ?_, hn, hc, by simpa using hs, ?_⟩⟩
    · rw [setCell_eq_setRow w g j _ _ (0, 0) _ hh, setRow_heap w g _ _ _ (0, 0) hh]
    · rw [List.map_set, ← ht]
      simp [List.take_set]

/-! from 32 to 64 bits, as an equation -/
def nanv2 (x : Nat) (w : World) : Nat := Question.cut (.nanConv .f64 x) (w.tape w.drawn (.nanConv .f64 x))
def upv (x : Nat) (w : World) : Nat := match FloatKind.f32.decode x with | .nan _ _ => nanv2 x w | .infinity g => FloatKind.f64.encode (.infinity g) | .number g m e => FloatKind.f64.encode (.number g m e)
def upw (x : Nat) (w : World) : World := match FloatKind.f32.decode x with | .nan _ _ => w.drew | _ => w
theorem upv_cn (x : Nat) (w : World) : cn .f64 (upv x w) = cconv .f32 .f64 (cn .f32 x) := by
  unfold upv
  cases hx : FloatKind.f32.decode x with
  | nan g t => exact (cut_nanConv .f64 x _).trans (by simp [cn, hx, Ieee.Datum.isNaN, cconv])
  | infinity g =>
    have e : cn .f32 x = some x := by simp [cn, hx, Ieee.Datum.isNaN]
    rw [e]; simp only [cconv, hx, cn]
    rw [if_neg]; have := write_not_nan FloatKind.f64.format (d := .infinity g) rfl; simp [FloatKind.decode, FloatKind.encode, this]
  | number g m e =>
    have e1 : cn .f32 x = some x := by simp [cn, hx, Ieee.Datum.isNaN]
    rw [e1]; simp only [cconv, hx, cn]
    rw [if_neg]; have := write_not_nan FloatKind.f64.format (d := .number g m e) rfl; simp [FloatKind.decode, FloatKind.encode, this]
theorem upv_eq {x y : Nat} (h : cn .f32 x = cn .f32 y) (w w2 : World) : cn .f64 (upv x w) = cn .f64 (upv y w2) := by rw [upv_cn, upv_cn, h]
theorem ftf_up (P : Program) (x : Nat) (w : World) : (Conv.floatToFloat .f32 x .f64).run P w = .ok (.float .f64 (upv x w)) (upw x w) := by
  unfold upv upw
  cases hx : FloatKind.f32.decode x with
  | nan g t => simp [Conv.floatToFloat, hx, choose, Sem.run, Question.forced, nanv2]
  | infinity g => simp [Conv.floatToFloat, hx]
  | number g m e =>
    have e1 : cn .f32 x = some x := by simp [cn, hx, Ieee.Datum.isNaN]
    have hf := fits_up (cn .f32 x)
    rw [e1] at hf
    have hfit := hf g m e hx
    simp [Conv.floatToFloat, hx, hfit]
theorem run_upC (x y : Nat) (w : World) : (convert 24 45 (.complex .f32 x y)).run Tryz.prog w = .ok (.complex .f64 (upv x w) (upv y (upw x w))) (upw y (upw x w)) := by
  have hs := Tryz.underlying24
  have hd := Tryz.underlying45
  simp [convert, run_underlying hs, run_underlying hd, Conv.complexToComplex, ftf_up]
def DrZ (w w' : World) : Prop := ∃ n, w' = w.drewN n
theorem DrZ.drewN {w w' : World} (h : DrZ w w') (n : Nat) : DrZ w (w'.drewN n) := by obtain ⟨m, e⟩ := h; exact ⟨m + n, by rw [e]; simp⟩
theorem DrZ.drew {w w' : World} (h : DrZ w w') : DrZ w w'.drew := by obtain ⟨m, e⟩ := h; exact ⟨m + 1, by rw [e]; simp⟩
theorem DrZ.upw {w w' : World} (h : DrZ w w') (x : Nat) : DrZ w (upw x w') := by
  unfold Proofs.YtkemghecglbleaaGreatDoor.upw
  split
  · exact h.drew
  · exact h
theorem DrZ.refl (w : World) : DrZ w w := ⟨0, rfl⟩
theorem upw_cell (x : Nat) (w : World) (p : Addr) : (upw x w).cell? p = w.cell? p := by
  unfold upw; split <;> rfl
/-! marks -/
def narrowZ (x : Nat) : Nat := match FloatKind.f64.decode x with | .number g m e => FloatKind.f32.encode (.number g m e) | _ => 0
def isMark (x : Nat) : Bool := match FloatKind.f64.decode x with
  | .number g m e => !(FloatKind.f32.decode (FloatKind.f32.encode (.number g m e))).isInfinity
  | _ => false
theorem marks_tab : ∀ k : Fin 300, isMark (floatOfInt .f64 (k.val : Int)) = true := by decide +kernel
theorem mark_one : isMark 4607182418800017408 = true ∧ narrowZ 4607182418800017408 = 1065353216 := by decide +kernel
theorem isMark_run (P : Program) {x : Nat} (h : isMark x = true) (w : World) : (Conv.floatToFloat .f64 x .f32).run P w = .ok (.float .f32 (narrowZ x)) w := by
  unfold isMark at h
  unfold narrowZ
  cases hx : FloatKind.f64.decode x with
  | nan g t => rw [hx] at h; cases h
  | infinity g => rw [hx] at h; cases h
  | number g m e =>
    rw [hx] at h
    dsimp only at h ⊢
    have hf : (FloatKind.f32.decode (FloatKind.f32.encode (.number g m e))).isInfinity = false := by simpa using h
    simp [Conv.floatToFloat, hx, hf]
theorem isMark_cn {x : Nat} (h : isMark x = true) : cn .f32 (narrowZ x) = some (narrowZ x) := by
  unfold isMark at h
  unfold narrowZ
  cases hx : FloatKind.f64.decode x with
  | nan g t => rw [hx] at h; cases h
  | infinity g => rw [hx] at h; cases h
  | number g m e =>
    dsimp only
    unfold cn
    rw [if_neg]
    have := write_not_nan FloatKind.f32.format (d := .number g m e) rfl
    simp [FloatKind.decode, FloatKind.encode, this]
theorem run_dnC {x y : Nat} (hx : isMark x = true) (hy : isMark y = true) (w : World) : (convert 45 24 (.complex .f64 x y)).run Tryz.prog w = .ok (.complex .f32 (narrowZ x) (narrowZ y)) w := by
  have hs := Tryz.underlying45
  have hd := Tryz.underlying24
  simp [convert, run_underlying hs, run_underlying hd, Conv.complexToComplex, isMark_run _ hx, isMark_run _ hy]
theorem run_neqC {x y : Nat} (hx : cn .f32 x = some x) (hy : cn .f32 y = some y) (t : TypeId) (w : World) : (binOp .neq t (.complex .f32 x y) (.complex .f32 x y)).run Tryz.prog w = .ok (.bool false) w := by
  have h1 := order_self hx
  have h2 := order_self hy
  simp [binOp, Op.complexOp, Op.Complex.cmp, Op.floatCmp, asBool, h1, h2]
/-- the mark of a number -/
def mk1 (k : Int) : Nat × Nat := (narrowZ (floatOfInt .f64 k), 1065353216)
def marksZ (k : Int) (n : Nat) : List (Nat × Nat) := (List.range n).map fun (j : Nat) => mk1 (k + (j : Int))
theorem marksZ_get (k : Int) (n j : Nat) (hj : j < n) : (marksZ k n).getD j (0, 0) = mk1 (k + (j : Int)) := by
  unfold marksZ
  simp [hj]
theorem marksZ_len (k : Int) (n : Nat) : (marksZ k n).length = n := by unfold marksZ; simp
theorem run_storeZ {w : World} {p : Addr} {u : Value} (x y : Nat) (hc : w.cell? p = some u) (hf : w.frozen? p = false) : (store p (.complex .f32 x y)).run Tryz.prog w = .ok () (w.setCell p (.complex .f32 x y)) := by
  rw [run_store Tryz.prog w p (.complex .f32 x y) .plain rfl, hc, hf]; rfl
theorem mark_at {k0 j : Nat} (h : k0 + j < 300) : isMark (floatOfInt .f64 ((k0 : Int) + (j : Int))) = true := by
  have := marks_tab ⟨k0 + j, h⟩
  rwa [show (((⟨k0 + j, h⟩ : Fin 300).val : Nat) : Int) = (k0 : Int) + (j : Int) by simp] at this
theorem take_setZ (l xs : List (Nat × Nat)) (k : Nat) (x : Nat × Nat) (hk : k < l.length) (hk2 : k < xs.length) (h : l.take k = xs.take k) (hx : x = xs.getD k (0, 0)) : (l.set k x).take (k + 1) = xs.take (k + 1) := by
  rw [List.take_succ_eq_append_getElem (by simpa using hk), List.take_succ_eq_append_getElem hk2, List.take_set_of_le (Nat.le_refl _), h]
  simp [hx, hk2]
end Go.Proofs.YtkemghecglbleaaGreatDoor
