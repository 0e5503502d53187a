/- Complex numbers up to which not-a-number their parts are. No condition. -/
import Derived.Test.YtkemghecglbleaaGreatDoorYa
import Derived.Lib.Hide
namespace Go.Proofs.YtkemghecglbleaaGreatDoor
set_option maxRecDepth 100000
open Go.RowKit

theorem run_ftf (P : Program) (w : World) (s d : FloatKind) (hsd : s ≠ d) (x : Nat) (hf : Fits s d (cn s x)) :
    ∃ r n, (Conv.floatToFloat s x d).run P w = .ok (.float d r) (w.drewN n) ∧ FE d r (cconv s d (cn s x)) := by
  cases hx : s.decode x with
  | nan g t =>
    refine ⟨Question.cut (.nanConv d x) (w.tape w.drawn (.nanConv d x)), 1, ?_, (cut_nanConv d x _).trans (by simp [cn, hx, Ieee.Datum.isNaN, cconv]), cut_nanConv_lt d x _⟩
    simp [Conv.floatToFloat, hsd, hx, choose, Sem.run, Question.forced]; rfl
  | infinity g =>
    have e : cn s x = some x := by simp [cn, hx, Ieee.Datum.isNaN]
    refine ⟨d.encode (.infinity g), 0, ?_, ?_, encode_sign _ _⟩
    · simp [Conv.floatToFloat, hsd, hx]; rfl
    · rw [e]; simp only [cconv, hx, cn]
      rw [if_neg]; have := write_not_nan d.format (d := .infinity g) rfl; simp [FloatKind.decode, FloatKind.encode, this]
  | number g m e =>
    have e1 : cn s x = some x := by simp [cn, hx, Ieee.Datum.isNaN]
    have hfit : (d.decode (d.encode (.number g m e))).isInfinity = false := by rw [e1] at hf; exact hf g m e hx
    refine ⟨d.encode (.number g m e), 0, ?_, ?_, encode_sign _ _⟩
    · simp [Conv.floatToFloat, hsd, hx, hfit]; rfl
    · rw [e1]; simp only [cconv, hx, cn]
      rw [if_neg]; have := write_not_nan d.format (d := .number g m e) rfl; simp [FloatKind.decode, FloatKind.encode, this]

theorem run_convC (P : Program) (w : World) (src dst : TypeId) (s d : FloatKind) (hsd : s ≠ d) (x y : Nat) (hs : (P.underlying src).isSome = true) (hd : P.underlying dst = some (.complex d)) (hf : Fits s d (cn s x)) (hg : Fits s d (cn s y)) :
    ∃ r q n, (convert src dst (.complex s x y)).run P w = .ok (.complex d r q) (w.drewN n) ∧ FE d r (cconv s d (cn s x)) ∧ FE d q (cconv s d (cn s y)) := by
  obtain ⟨u, hs'⟩ := Option.isSome_iff_exists.1 hs
  obtain ⟨r, n, h1, hr⟩ := run_ftf P w s d hsd x hf
  obtain ⟨q, m, h2, hq⟩ := run_ftf P (w.drewN n) s d hsd y hg
  refine ⟨r, q, n + m, ?_, hr, hq⟩
  have e : (w.drewN n).drewN m = w.drewN (n + m) := by simp
  rw [← e]
  cases u <;> simp [convert, run_underlying hs', run_underlying hd, Conv.complexToComplex, h1, h2]

section
variable (w : World) {o : Oper} {a : Act} {K : Act → World → Prop} {Q : Exit → Act → World → Prop}
theorem up_upC (x y : Nat) (h : ∀ r q n, FE .f64 r (cconv .f32 .f64 (cn .f32 x)) → FE .f64 q (cconv .f32 .f64 (cn .f32 y)) → K (a.put o.dst (.complex .f64 r q)) (w.drewN n)) :
    o.upon Tryz.prog a K Q ((Sem.run Tryz.prog (convert 24 45 (.complex .f32 x y)) w).andThen fun v w' => .ok (.value v) w') := by
  obtain ⟨r, q, n, hr, hc, hd⟩ := run_convC Tryz.prog w 24 45 .f32 .f64 (by decide) x y (by rw [Tryz.underlying24]; rfl) Tryz.underlying45 (fits_up (cn .f32 x)) (fits_up (cn .f32 y))
  rw [hr]
  exact h r q n hc hd
end

def RetC (k : FloatKind) (c d : Option Nat) (w : World) (e : Ending) (w' : World) : Prop := ∃ r q n, e = .returned (.complex k r q) ∧ FE k r c ∧ FE k q d ∧ w' = w.drewN n
theorem RetC.mk {k : FloatKind} {r q : Nat} {c d : Option Nat} {w : World} {n : Nat} (h : FE k r c) (h2 : FE k q d) : RetC k c d w (.returned (.complex k r q)) (w.drewN n) := ⟨r, q, n, rfl, h, h2, rfl⟩
theorem RetC.mk0 {k : FloatKind} {r q : Nat} {c d : Option Nat} {w : World} (h : FE k r c) (h2 : FE k q d) : RetC k c d w (.returned (.complex k r q)) w := ⟨r, q, 0, rfl, h, h2, rfl⟩

end Go.Proofs.YtkemghecglbleaaGreatDoor
