/- The float operations of this program, as the walk meets them. No condition. -/
import Derived.Test.YticeapacffgikaaGreatDoorRows
import Derived.Test.YticeapacffgikaaGreatDoorMag
namespace Go.Proofs.YticeapacffgikaaGreatDoor
set_option maxRecDepth 100000
section
variable (w : World) {o : Oper} {a : Act} {K : Act → World → Prop} {Q : Exit → Act → World → Prop}
theorem up_fl (op : BinOp) (hop : op = .add ∨ op = .sub ∨ op = .mul ∨ op = .quo) (t : TypeId) (k : FloatKind) (x y : Nat)
    (h : ∀ r n, FE k r (cop op k (cn k x) (cn k y)) → K (a.put o.dst (.float k r)) (w.drewN n)) :
    o.upon Tryz.prog a K Q ((Sem.run Tryz.prog (binOp op t (.float k x) (.float k y)) w).andThen fun v w' => .ok (.value v) w') := upon_fl w op hop t k x y h
theorem up_add (t : TypeId) (k : FloatKind) (x y : Nat) (h : ∀ r n, FE k r (cop .add k (cn k x) (cn k y)) → K (a.put o.dst (.float k r)) (w.drewN n)) :
    o.upon Tryz.prog a K Q ((Sem.run Tryz.prog (binOp .add t (.float k x) (.float k y)) w).andThen fun v w' => .ok (.value v) w') := up_fl w .add (by simp) t k x y h
theorem up_sub (t : TypeId) (k : FloatKind) (x y : Nat) (h : ∀ r n, FE k r (cop .sub k (cn k x) (cn k y)) → K (a.put o.dst (.float k r)) (w.drewN n)) :
    o.upon Tryz.prog a K Q ((Sem.run Tryz.prog (binOp .sub t (.float k x) (.float k y)) w).andThen fun v w' => .ok (.value v) w') := up_fl w .sub (by simp) t k x y h
theorem up_mul (t : TypeId) (k : FloatKind) (x y : Nat) (h : ∀ r n, FE k r (cop .mul k (cn k x) (cn k y)) → K (a.put o.dst (.float k r)) (w.drewN n)) :
    o.upon Tryz.prog a K Q ((Sem.run Tryz.prog (binOp .mul t (.float k x) (.float k y)) w).andThen fun v w' => .ok (.value v) w') := up_fl w .mul (by simp) t k x y h
theorem up_quo (t : TypeId) (k : FloatKind) (x y : Nat) (h : ∀ r n, FE k r (cop .quo k (cn k x) (cn k y)) → K (a.put o.dst (.float k r)) (w.drewN n)) :
    o.upon Tryz.prog a K Q ((Sem.run Tryz.prog (binOp .quo t (.float k x) (.float k y)) w).andThen fun v w' => .ok (.value v) w') := up_fl w .quo (by simp) t k x y h
theorem up_up (x : Nat) (h : ∀ r n, FE .f64 r (cconv .f32 .f64 (cn .f32 x)) → K (a.put o.dst (.float .f64 r)) (w.drewN n)) :
    o.upon Tryz.prog a K Q ((Sem.run Tryz.prog (convert 24 44 (.float .f32 x)) w).andThen fun v w' => .ok (.value v) w') := by
  obtain ⟨r, n, hr, hc⟩ := run_conv Tryz.prog w 24 44 .f32 .f64 (by decide) x (by rw [Tryz.underlying24]; rfl) Tryz.underlying44 (fits_up (cn .f32 x))
  rw [hr]
  exact h r n hc
theorem up_down (x : Nat) (hf : Fits .f64 .f32 (cn .f64 x)) (h : ∀ r n, FE .f32 r (cconv .f64 .f32 (cn .f64 x)) → K (a.put o.dst (.float .f32 r)) (w.drewN n)) :
    o.upon Tryz.prog a K Q ((Sem.run Tryz.prog (convert 44 24 (.float .f64 x)) w).andThen fun v w' => .ok (.value v) w') := by
  obtain ⟨r, n, hr, hc⟩ := run_conv Tryz.prog w 44 24 .f64 .f32 (by decide) x (by rw [Tryz.underlying44]; rfl) Tryz.underlying24 hf
  rw [hr]
  exact h r n hc
end
end Go.Proofs.YticeapacffgikaaGreatDoor
