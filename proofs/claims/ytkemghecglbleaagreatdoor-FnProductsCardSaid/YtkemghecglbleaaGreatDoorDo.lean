/- What DotNumbers gives on both sides. -/
import Derived.Test.YtkemghecglbleaaGreatDoorSu
namespace Go.Proofs.YtkemghecglbleaaGreatDoor
set_option maxRecDepth 100000
open Go.RowKit

/-- what a float operation gives in a world -/
def flv (op : BinOp) (x y : Nat) (w : World) : Nat := match floatBits op .f32 x y with | some r => r | none => Question.cut (.nanBits .f32 x y) (w.tape w.drawn (.nanBits .f32 x y))
/-- how often it draws -/
def fln (op : BinOp) (x y : Nat) : Nat := match floatBits op .f32 x y with | some _ => 0 | none => 1
theorem run_flv (op : BinOp) (hop : op = .add ∨ op = .sub ∨ op = .mul ∨ op = .quo) (t : TypeId) (x y : Nat) (w : World) :
    (binOp op t (.float .f32 x) (.float .f32 y)).run Tryz.prog w = .ok (.float .f32 (flv op x y w)) (w.drewN (fln op x y)) := by
  cases h : floatBits op .f32 x y with
  | some r =>
    have e1 : flv op x y w = r := by unfold flv; rw [h]
    have e2 : fln op x y = 0 := by unfold fln; rw [h]
    rw [e1, e2]
    exact run_float_arith w op t .f32 x y r h
  | none =>
    have e1 : flv op x y w = Question.cut (.nanBits .f32 x y) (w.tape w.drawn (.nanBits .f32 x y)) := by unfold flv; rw [h]
    have e2 : fln op x y = 1 := by unfold fln; rw [h]
    rw [e1, e2]
    unfold floatBits at h
    rcases hop with rfl | rfl | rfl | rfl <;> (simp only at h; simp [binOp, Op.floatArith, h, choose, Sem.run, Question.forced]; rfl)
theorem FE_flv (op : BinOp) (x y : Nat) (w : World) : FE .f32 (flv op x y w) (cop op .f32 (cn .f32 x) (cn .f32 y)) := by
  unfold flv
  cases h : floatBits op .f32 x y with
  | some r => exact ⟨by rw [← floatBits_cop, h, floatBits_cn h], wf_sign (floatBits_wf h)⟩
  | none => exact ⟨(cut_nanBits .f32 x y _).trans (by rw [← floatBits_cop, h]), cut_nanBits_lt .f32 x y _⟩

def dotC : List Nat → List Nat → Option Nat → Option Nat
  | x :: xs, y :: ys, a => dotC xs ys (cop .add .f32 a (cop .mul .f32 (cn .f32 x) (cn .f32 y)))
  | _, _, a => a
/-- behind k products -/
def dotK (xs ys : List Nat) : Nat → Option Nat
  | 0 => some 0
  | k + 1 => cop .add .f32 (dotK xs ys k) (cop .mul .f32 (cn .f32 (xs.getD k 0)) (cn .f32 (ys.getD k 0)))

theorem dot_step {xs ys : List Nat} {k s x y p r : Nat} (hs : FE .f32 s (dotK xs ys k)) (hx : x = xs.getD k 0) (hy : y = ys.getD k 0) (hp : FE .f32 p (cop .mul .f32 (cn .f32 x) (cn .f32 y))) (hr : FE .f32 r (cop .add .f32 (cn .f32 s) (cn .f32 p))) : FE .f32 r (dotK xs ys (k + 1)) := by
  refine hr.cast ?_
  rw [hs.out, hp.out, hx, hy]; rfl

def dotB (xs ys : List Nat) : Bool := decide (xs.length ≤ 256 ∧ xs.length = ys.length)
def dotR (xs ys : List Nat) : Option Nat := if dotB xs ys then dotK xs ys xs.length else some 0
theorem dotR_bad {xs ys : List Nat} (h : dotB xs ys = false) : dotR xs ys = some 0 := by unfold dotR; rw [h]; rfl
theorem dotR_good {xs ys : List Nat} (h : dotB xs ys = true) : dotR xs ys = dotK xs ys xs.length := by unfold dotR; rw [h]; rfl

end Go.Proofs.YtkemghecglbleaaGreatDoor
