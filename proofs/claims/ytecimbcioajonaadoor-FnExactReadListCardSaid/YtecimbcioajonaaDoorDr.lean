/- The reference's ReadDecimal, and the statement walked. -/
import Derived.Test.YtecimbcioajonaaDoorDp
namespace Go.Proofs.YtecimbcioajonaaDoor
set_option maxRecDepth 100000
set_option linter.unusedVariables false
open Go.Lib Go.RowKit Go.Proofs.YtecimbcioajonaaDoorW.PrintWords Go.Proofs.YtecimbcioajonaaDoor.PReadList
theorem star_is : "*" ++ "errors.errorString" = "*errors.errorString" := by decide
theorem row_is (u : TypeId) (h : Tryd.prog.typeName? 3 u = some "*errors.errorString") : u = 102 :=
  typeName_ptr_named (nm := "errors.errorString") (by rw [star_is]; kernel_rfl) (by kernel_rfl) (by decide) u (by rw [star_is]; exact h)
theorem err_of {W : World} {n : String} {rest : List (String × DataW Unit)} {text : List UInt8} {g : Nat} (hg : Tryd.prog.globalNamed n = some g) (ht : (Tryd.prog.globals[g]?).map (·.type) = some 38)
    (h : laidMet Tryd.prog ((n, .iface "*errors.errorString" (.ptr (.agg [.lit (.string text)]))) :: rest) W) : ∃ tp p, W.var? Tryd.prog n = some #[.iface tp p] := by
  obtain ⟨a, s, hv, _⟩ := laid_sentinel (ti := 38) (tp := 102) (te := 104) (ts := 9) h hg ht Tryd.underlying38 row_is (by kernel_rfl) Tryd.underlying104 rfl rfl (by kernel_rfl) (by kernel_rfl) (by kernel_rfl)
  exact ⟨_, _, hv⟩
theorem Wd_of {W : World} {rest : List (String × DataW Unit)} (hsh : W.ShapedOpen Tryd.prog) (ht : Tb W)
    (h : laidMet Tryd.prog (("strconv.ErrRange", Rows.laid_strconv_ErrRange) :: ("strconv.ErrSyntax", Rows.laid_strconv_ErrSyntax) :: rest) W) : Wd W :=
  ⟨ht, ⟨err_of gSyn (by kernel_rfl) h.tail, err_of gRan (by kernel_rfl) h⟩, Tryd.laysM146.s1_3 W hsh⟩
theorem spec_ReadDecimal (s : ByteArray) (w : World) :
    Calls Tryd.prog 10 #[.string s] w (RetB (.tuple #[.int .i64 ((valD s).getD 0), .bool (valD s).isSome]) w) := by
  obtain ⟨k, hk⟩ := (ev_Value s).rounds
  go_enter Tryd.func10, Tryd.ntmps10
  go_wp2_with (go_at_call 24; refine (spec_l01Value.calls k s _ _ _ hk).mono ?_; rintro _ _ ⟨rfl, hB⟩)
  go_ret2
  exact ⟨rfl, hB⟩
theorem law_ReadDecimal (s : ByteArray) (w : World) (hw : Wd w) :
    Calls Tryd.prog 4 #[.string s] w (LawTrue w) := by
  have HW := Lib.hid hw
  clear hw
  by_cases hs : s.size ≤ 1048576
  · have hs2 : ¬ (1048576 < (s.size : Int)) := by omega
    generalize hv : valD s = o
    have V := Lib.hid hv
    clear hv
    go_enter Tryd.func4, Tryd.ntmps4
    go_wp2_with (first
      | (go_at_call 10; refine (spec_ReadDecimal s _).mono ?_; rw [V.out]; rintro _ w1 ⟨rfl, hB⟩; have B1 := Lib.hid hB; clear hB)
      | (go_at_call 11; refine (impl_ReadDecimal s hs _ (HW.out.below B1.out)).mono ?_; rw [V.out]; rintro _ w2 ⟨rfl, hB⟩; have B2 := Lib.hid (B1.out.trans (hB.mono B1.out.size)); clear hB))
    all_goals go_ret
    all_goals first | exact ⟨rfl, B2.out⟩ | (exfalso; simp_all)
  · have hs2 : 1048576 < (s.size : Int) := by omega
    go_enter Tryd.func4, Tryd.ntmps4
    go_wp2
    go_ret
    exact ⟨rfl, Below.refl _ _⟩
end Go.Proofs.YtecimbcioajonaaDoor
