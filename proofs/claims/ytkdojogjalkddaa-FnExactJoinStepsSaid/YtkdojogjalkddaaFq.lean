/- How an argument that is steps is read. -/
import Derived.Test.YtkdojogjalkddaaFo
import Derived.Lib.SmallJoins
namespace Go.Proofs.Ytkdojogjalkddaa
set_option maxRecDepth 100000
open Go.Deep Go.ChangeShapes Go.WideShapes Go.ChangeAt Go.RowKit Go.Joins

theorem open_f32cell {H : Type} {enc : TypeId × Value → H} {W : World} {spare : Nat → Bool} {held : Bool} {v : Value} {n : Nat} {y : DataW H × List MemPlace}
    (h : DataW.trod enc Try.prog W 0 spare held n 22 [v] = some y) :
    ∃ (a : Option Addr) (cap : Nat) (zs : List Nat), v = .slice a zs.length cap ∧ Fs W a zs ∧ (∀ j, j < zs.length → zs.getD j 0 < 4294967296) ∧ zs.length ≤ maxLen := by
  have hv : ∃ a len cap, v = .slice a len cap := by
    rcases open_slice1 Try.underlying22 (by kernel_rfl) h with ⟨hcs, _⟩ | ⟨x, l, c, m, n, V, D, Pl, hcs, _⟩
    · simp at hcs
      exact ⟨_, _, _, hcs⟩
    · simp at hcs
      exact ⟨_, _, _, hcs⟩
  obtain ⟨a, len, cap, rfl⟩ := hv
  have ht : DataW.Trod enc Try.prog W 0 spare held 22 (.slice a len cap) y.1 y.2 := ⟨n, h⟩
  obtain ⟨zs, rfl, h1, h2, h3⟩ := open_f32s ht
  exact ⟨a, cap, zs, rfl, h1, h2, h3⟩

theorem open_steps {H : Type} {enc : TypeId × Value → H} {W : World} {spare : Nat → Bool} {held : Bool} {base : Nat} {v : Value} {d : DataW H} {ps : List MemPlace}
    (hv : Value.okWide Try.prog W .any base 24 v) (h : DataW.Trod enc Try.prog W 0 spare held 24 v d ps) :
    ∃ (a b : Option Addr) (c c' : Nat) (xs ys : List Nat), v = .agg #[.slice a xs.length c, .slice b ys.length c'] ∧ Fs W a xs ∧ Fs W b ys ∧ (∀ j, j < xs.length → xs.getD j 0 < 4294967296) ∧ (∀ j, j < ys.length → ys.getD j 0 < 4294967296) ∧ xs.length ≤ maxLen ∧ ys.length ≤ maxLen := by
  obtain ⟨v0, v1, y0, y1, n, rfl, _, _, h0, h1⟩ := open_agg2 Try.underlying24 (by kernel_rfl) (by kernel_rfl) hv h
  obtain ⟨a, c, xs, rfl, s1, s2, s3⟩ := open_f32cell h0
  obtain ⟨b, c', ys, rfl, t1, t2, t3⟩ := open_f32cell h1
  exact ⟨a, b, c, c', xs, ys, rfl, s1, t1, s2, t2, s3, t3⟩
end Go.Proofs.Ytkdojogjalkddaa
