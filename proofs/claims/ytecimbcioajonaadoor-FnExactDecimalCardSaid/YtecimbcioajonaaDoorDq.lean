/- The reference's Decimal, and the statement walked. -/
import Derived.Test.YtecimbcioajonaaDoorDp
namespace Go.Proofs.YtecimbcioajonaaDoor
set_option maxRecDepth 100000
set_option linter.unusedVariables false
open Go.Lib Go.RowKit Go.Proofs.YtecimbcioajonaaDoorW.PrintWords Go.Proofs.YtecimbcioajonaaDoor.PReadList
theorem spec_Decimal (n : Int) (h0 : -9223372036854775808 ≤ n) (h1 : n ≤ 9223372036854775807) (w : World) :
    Calls Tryd.prog 8 #[.int .i64 n] w (RetB (.string (ofL (itoa n))) w) := by
  obtain ⟨k, hk⟩ := (ev_Dec n h0 h1).rounds
  go_enter Tryd.func8, Tryd.ntmps8
  go_wp2_with (go_at_call 22; refine (spec_l01Dec.calls k n _ _ hk).mono ?_; rintro _ _ ⟨rfl, hB⟩)
  go_ret
  exact ⟨rfl, hB⟩
theorem law_Decimal (n : Int) (h0 : -9223372036854775808 ≤ n) (h1 : n ≤ 9223372036854775807) (w : World) (ht : Tb w) :
    Calls Tryd.prog 3 #[.int .i64 n] w (LawTrue w) := by
  have HT := Lib.hid ht
  clear ht
  go_enter Tryd.func3, Tryd.ntmps3
  go_wp2_with (first
    | (go_at_call 8; refine (spec_Decimal n h0 h1 _).mono ?_; rintro _ w1 ⟨rfl, hB⟩; have B1 := Lib.hid hB; clear hB)
    | (go_at_call 9; refine (impl_Decimal n h0 h1 _ (HT.out.below B1.out)).mono ?_; rintro _ w2 ⟨rfl, hB⟩; have B2 := Lib.hid (B1.out.trans (hB.mono B1.out.size)); clear hB))
  all_goals go_ret
  exact ⟨rfl, B2.out⟩
end Go.Proofs.YtecimbcioajonaaDoor
