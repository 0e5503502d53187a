/- What the listed variables hold, where texts of numbers are read. -/
import Derived.Test.YtkemghecglbleaaGreatDoorGk
import Derived.Test.YtkemghecglbleaaGreatDoorGh
namespace Go.Proofs.YtkemghecglbleaaGreatDoor
set_option maxRecDepth 100000
set_option linter.unusedVariables false
open Go.ChangeShapes Go.WideShapes Go.ChangeAt Go.RowKit
theorem star_is : "*" ++ "errors.errorString" = "*errors.errorString" := by decide
theorem row_is (u : TypeId) (h : Tryz.prog.typeName? 3 u = some "*errors.errorString") : u = 145 :=
  typeName_ptr_named (nm := "errors.errorString") (by rw [star_is]; kernel_rfl) (by kernel_rfl) (by decide) u (by rw [star_is]; exact h)
theorem err_of {W : World} {n : String} {rest : List (String × DataW Unit)} {text : List UInt8} {g : Nat} (hg : Tryz.prog.globalNamed n = some g) (ht : (Tryz.prog.globals[g]?).map (·.type) = some 84)
    (h : laidMet Tryz.prog ((n, .iface "*errors.errorString" (.ptr (.agg [.lit (.string text)]))) :: rest) W) : ∃ tp p, W.var? Tryz.prog n = some #[.iface tp p] := by
  obtain ⟨a, s, hv, _⟩ := laid_sentinel (ti := 84) (tp := 145) (te := 147) (ts := 9) h hg ht Tryz.underlying84 row_is (by kernel_rfl) Tryz.underlying147 rfl rfl (by kernel_rfl) (by kernel_rfl) (by kernel_rfl)
  exact ⟨_, _, hv⟩
theorem cell_of_var {w : World} {n : String} {g : Nat} {v : Value} (hg : Tryz.prog.globalNamed n = some g) (h : w.var? Tryz.prog n = some #[v]) : w.cell? ⟨g, 0, none⟩ = some v := by
  unfold World.var? at h
  rw [hg] at h
  simp only [Option.bind_some] at h
  unfold World.cell?
  dsimp only
  split at h
  · rename_i cs _ _ hh
    rw [hh]
    injection h with h
    subst h
    rfl
  · cases h
theorem gSyn : Tryz.prog.globalNamed "strconv.ErrSyntax" = some 2 := by kernel_rfl
theorem gRan : Tryz.prog.globalNamed "strconv.ErrRange" = some 3 := by kernel_rfl
theorem Wd_of {W : World} {rest : List (String × DataW Unit)} (hsh : W.ShapedOpen Tryz.prog) (ht : Db16 W)
    (h : laidMet Tryz.prog (("strconv.ErrRange", Rows.laid_strconv_ErrRange) :: ("strconv.ErrSyntax", Rows.laid_strconv_ErrSyntax) :: rest) W) : Wd W := by
  obtain ⟨t1, p1, h1⟩ := err_of gSyn (by kernel_rfl) h.tail
  obtain ⟨t2, p2, h2⟩ := err_of gRan (by kernel_rfl) h
  exact ⟨ht, ⟨⟨t1, p1, cell_of_var gSyn h1⟩, t2, p2, cell_of_var gRan h2⟩, Tryz.laysM146.s1_3 W hsh⟩
end Go.Proofs.YtkemghecglbleaaGreatDoor
