/- NumbersText: the statement walked. -/
import Derived.Test.YtbadlhakedppiaaDoorGe
import Derived.Test.YtbadlhakedppiaaDoorGh
namespace Go.Proofs.YtbadlhakedppiaaDoor
set_option maxRecDepth 100000
set_option linter.unusedVariables false
open Go.Lib Go.RowKit Go.Sort
set_option maxHeartbeats 4000000 in
theorem law_NumbersText (a : Option Addr) (cap : Nat) (xs : List Nat) (w : World) (hs : Fs w a xs) (hw : ∀ j, j < xs.length → xs.getD j 0 < 4294967296) (h16 : Db16 w) :
    Calls Tryd.prog 3 #[.slice a xs.length cap] w (LawTrue w) := by
  have HS := Lib.hid hs
  have HD := Lib.hid h16
  clear hs h16
  by_cases hl : xs.length ≤ 1048576
  · have hl2 : ¬ (1048576 < (xs.length : Int)) := by omega
    have P := Lib.hid (fun a cap w hs => spec_NumbersText a cap xs hw w hs)
    have I := Lib.hid (fun a cap w hs h => impl_NumbersText a cap xs hw w hs h)
    have E := Lib.hid (fun a b c d w hs ht => laws_eqFloat32S a b c d xs xs w hs ht (by omega) rfl hw (fun _ _ => rfl))
    generalize textN xs = o at P I
    obtain ⟨ow, ob⟩ := o
    dsimp only at P I
    clear hw
    go_enter Tryd.func3, Tryd.ntmps3
    go_wp2_with fail
    refine (laws_toFloat32S a cap xs _ HS.out hl).mono ?_
    rintro _ w1 ⟨b1, rfl, _, hR1, hB1⟩
    have R1 := Lib.hid hR1.Fs
    have B1 := Lib.hid hB1
    clear hR1 hB1
    go_wp2_with fail
    refine (P.out _ _ _ R1.out).mono ?_
    rintro _ w2 ⟨rfl, hB2⟩
    have B2 := Lib.hid (B1.out.trans (hB2.mono B1.out.size))
    clear hB2 R1
    go_wp2_with fail
    refine (laws_toFloat32S a cap xs _ (HS.out.below B2.out) hl).mono ?_
    rintro _ w3 ⟨b3, rfl, _, hR3, hB3⟩
    have R3 := Lib.hid hR3.Fs
    have B3 := Lib.hid (B2.out.trans (hB3.mono B2.out.size))
    clear hR3 hB3
    go_wp2_with fail
    refine (I.out _ _ _ R3.out (HD.out.below B3.out)).mono ?_
    rintro _ w4 ⟨rfl, hB4⟩
    have R4 := Lib.hid (R3.out.below hB4)
    have B4 := Lib.hid (B3.out.trans (hB4.mono B3.out.size))
    clear hB4 R3
    go_wp2_with fail
    refine (laws_toFloat32S a cap xs _ (HS.out.below B4.out) hl).mono ?_
    rintro _ w5 ⟨b5, rfl, _, hR5, hB5⟩
    have R5 := Lib.hid hR5.Fs
    have R6 := Lib.hid (R4.out.below hB5)
    have B5 := Lib.hid (B4.out.trans (hB5.mono B4.out.size))
    clear hR5 hB5 R4
    go_wp2_with fail
    refine (E.out _ _ _ _ _ R6.out R5.out).mono ?_
    rintro _ _ ⟨n6, rfl, rfl⟩
    go_wp2
    all_goals go_ret
    all_goals first | exact ⟨rfl, B5.out.trans (below_dN.mono B5.out.size)⟩ | (exfalso; simp_all)
  · have hl2 : 1048576 < (xs.length : Int) := by omega
    go_enter Tryd.func3, Tryd.ntmps3
    go_wp2
    go_ret
    exact ⟨rfl, Below.refl _ _⟩
end Go.Proofs.YtbadlhakedppiaaDoor
