/- How an argument that is a slice of bytes is read. -/
import Derived.Test.YtkemghecglbleaaGreatDoorXw
import Derived.Test.YtkemghecglbleaaGreatDoorFr
import Derived.ChangeSlices
namespace Go.Proofs.YtkemghecglbleaaGreatDoor
open Go.ChangeShapes Go.WideShapes Go.ChangeAt Go.RowKit
theorem u8_wf {n : Int} (h : (Lit.int .u8 n).wf = true) : 0 ≤ n ∧ n < 256 := by
  have := h
  simp [Lit.wf, IntKind.min, IntKind.max, IntKind.signed, IntKind.bits] at this
  omega
theorem open_bytes {H : Type} {enc : TypeId × Value → H} {W : World} {held : Bool} {a : Option Addr} {len cap : Nat} {d : DataW H} {ps : List MemPlace}
    (h : DataW.Trod enc Tryz.prog W 0 (fun _ => true) held 22 (.slice a len cap) d ps) : Bs W a len := by
  obtain ⟨fuel, hf⟩ := h
  rcases open_ints Tryz.underlying22 Tryz.underlying5 (by kernel_rfl) hf with ⟨hcs, _⟩ | ⟨x, l, c, zs, hcs, _, hl, hm, hz, _, hx, hw⟩
  · simp [Value.cells] at hcs
    intro j hj
    omega
  · simp [Value.cells] at hcs
    obtain ⟨rfl, rfl, rfl⟩ := hcs
    intro j hj
    have hz' : zs.length = cap := by simpa using hz
    have hj2 : j < zs.length := by omega
    have h1 := hx j hj2
    have h2 := u8_wf (hw (zs.getD j 0) (by rw [List.getD_eq_getElem?_getD, List.getElem?_eq_getElem hj2]; exact List.getElem_mem hj2))
    exact ⟨x, zs.getD j 0, rfl, h2.1, h2.2, h1⟩
end Go.Proofs.YtkemghecglbleaaGreatDoor
