/- What a statement over steps holds in memory while it runs. -/
import Derived.Test.YtkdojogjalkddaaSm
namespace Go.Proofs.Ytkdojogjalkddaa
set_option maxRecDepth 100000
set_option linter.unusedVariables false
open Go.RowKit

/-- since w0 nothing of what was there has turned; these blocks hold these structs, these blocks these numbers -/
def Kp (w0 : World) (bx : List (Nat × Value × Value)) (rs : List (Nat × List Nat)) (w : World) : Prop :=
  Below w0.heap.size w0 w ∧ (∀ t ∈ bx, Bk w t.1 t.2.1 t.2.2) ∧ ∀ r ∈ rs, Rw w r.1 r.2

section
variable {w0 w w' : World} {bx : List (Nat × Value × Value)} {rs : List (Nat × List Nat)}
theorem Kp.start (w : World) : Kp w [] [] w := ⟨Below.refl _ _, by simp, by simp⟩
theorem Kp.base (h : Kp w0 bx rs w) : Below w0.heap.size w0 w := h.1
theorem Kp.box (h : Kp w0 bx rs w) (p : Nat) {u v : Value} (hm : (p, u, v) ∈ bx) : Bk w p u v := h.2.1 _ hm
theorem Kp.nth (h : Kp w0 bx rs w) (i : Nat) {p : Nat} {u v : Value} (hm : bx[i]? = some (p, u, v)) : Bk w p u v := h.2.1 (p, u, v) (List.mem_of_getElem? hm)
theorem Kp.row (h : Kp w0 bx rs w) (g : Nat) {xs : List Nat} (hm : (g, xs) ∈ rs) : Rw w g xs := h.2.2 _ hm
theorem Kp.below (h : Kp w0 bx rs w) (hb : Below w.heap.size w w') : Kp w0 bx rs w' :=
  ⟨h.1.trans (hb.mono h.1.size), fun t ht => (h.2.1 t ht).below hb (h.2.1 t ht).2.2, fun r hr => (h.2.2 r hr).below hb⟩
theorem Kp.drewN (h : Kp w0 bx rs w) (n : Nat) : Kp w0 bx rs (w.drewN n) := ⟨below_drewN' h.1 n, h.2.1, h.2.2⟩
theorem Kp.drew (h : Kp w0 bx rs w) : Kp w0 bx rs w.drew := h.drewN 1
theorem Kp.undrew (h : Kp w0 bx rs w.drew) : Kp w0 bx rs w := ⟨⟨h.1.os, h.1.tape, h.1.output, h.1.size, h.1.block⟩, h.2.1, h.2.2⟩
theorem Kp.addBox (h : Kp w0 bx rs w) {p : Nat} {u v : Value} (hb : Bk w p u v) : Kp w0 ((p, u, v) :: bx) rs w :=
  ⟨h.1, fun t ht => by rcases List.mem_cons.1 ht with rfl | ht; exact hb; exact h.2.1 t ht, h.2.2⟩
theorem Kp.addRow (h : Kp w0 bx rs w) {g : Nat} {xs : List Nat} (hr : Rw w g xs) : Kp w0 bx ((g, xs) :: rs) w :=
  ⟨h.1, h.2.1, fun r hm => by rcases List.mem_cons.1 hm with rfl | hm; exact hr; exact h.2.2 r hm⟩
theorem Kp.new (h : Kp w0 bx rs w) (u v : Value) (T : TypeId) : Kp w0 ((w.heap.size, u, v) :: bx) rs (w.alloc (.cells #[u, v] T)) :=
  (h.below (below1 w _)).addBox (Bk.new w u v T)
theorem Kp.forget (h : Kp w0 bx rs w) : Kp w0 bx [] w := ⟨h.1, h.2.1, by simp⟩
theorem Kp.fs (h : Kp w0 bx rs w) {a : Option Addr} {xs : List Nat} (hf : Fs w0 a xs) : Fs w a xs := hf.below h.1
end
/-- what behind a step copied -/
theorem Kp.steps {w0 w w' : World} {bx : List (Nat × Value × Value)} {rs : List (Nat × List Nat)} {xs ys : List Nat} {g h : Nat} (k : Kp w0 bx rs w) (hR : Rw w' g xs) (hR2 : Rw w' h ys) (hB : Below w.heap.size w w') : Kp w0 bx ((h, ys) :: (g, xs) :: rs) w' :=
  ((k.below hB).addRow hR).addRow hR2
theorem two_new (w : World) (u v u' v' : Value) (T T' : TypeId) : Kp w [(w.heap.size + 1, u', v'), (w.heap.size, u, v)] [] ((w.alloc (.cells #[u, v] T)).alloc (.cells #[u', v'] T')) := by
  have h := ((Kp.start w).new u v T).new u' v' T'
  rwa [World.size_alloc] at h

end Go.Proofs.Ytkdojogjalkddaa
