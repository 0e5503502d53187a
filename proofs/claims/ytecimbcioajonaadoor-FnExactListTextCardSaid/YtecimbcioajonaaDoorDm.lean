/- How an argument that is a slice of integers is read. -/
import Derived.Test.YtecimbcioajonaaDoorDk
import Derived.ChangeSlices
namespace Go.Proofs.YtecimbcioajonaaDoor
open Go.ChangeShapes Go.WideShapes Go.ChangeAt Go.RowKit Go.Proofs.YtecimbcioajonaaDoorW.PrintWords
theorem open_i64s {H : Type} {enc : TypeId × Value → H} {W : World} {held : Bool} {a : Option Addr} {len cap : Nat} {d : DataW H} {ps : List MemPlace}
    (h : DataW.Trod enc Tryd.prog W 0 (fun _ => true) held 27 (.slice a len cap) d ps) : ∃ l : List Int, len = l.length ∧ CI W a l ∧ l.length ≤ cap := by
  obtain ⟨fuel, hf⟩ := h
  have key : (a = none ∧ len = 0 ∧ cap = 0 ∧ ([] : List Int) = []) ∨ ∃ zs : List Int, ∃ x, a = some x ∧ len ≤ cap ∧ cap ≤ maxLen ∧ zs.length = cap ∧ (∀ i, i < zs.length → W.cell? (x.add i) = some (.int .i64 (zs.getD i 0))) ∧ ∀ n ∈ zs, (Lit.int .i64 n).wf = true := by
    rcases open_ints Tryd.underlying27 Tryd.underlying2 (by kernel_rfl) hf with ⟨hcs, _⟩ | ⟨x, l, c, zs, hcs, _, hl, hm, hz, _, hx, hw⟩
    · simp [Value.cells] at hcs
      exact .inl ⟨hcs.1, hcs.2.1, hcs.2.2, rfl⟩
    · simp [Value.cells] at hcs
      obtain ⟨rfl, rfl, rfl⟩ := hcs
      exact .inr ⟨zs, x, rfl, hl, hm, by simpa using hz, hx, hw⟩
  rcases key with k | ⟨zs, x, k⟩
  · obtain ⟨l, e, hr, _, _, hc⟩ := ReadsInt.ofRowC (k := .i64) (w := W) (zs := []) (.inl k)
    exact ⟨l, e, Kd.C_of_reads (d := (0 : Int)) (h1 := fun _ => rfl) hr, hc⟩
  · obtain ⟨l, e, hr, _, _, hc⟩ := ReadsInt.ofRowC (k := .i64) (w := W) (zs := zs) (.inr ⟨x, k⟩)
    exact ⟨l, e, Kd.C_of_reads (d := (0 : Int)) (h1 := fun _ => rfl) hr, hc⟩
end Go.Proofs.YtecimbcioajonaaDoor
