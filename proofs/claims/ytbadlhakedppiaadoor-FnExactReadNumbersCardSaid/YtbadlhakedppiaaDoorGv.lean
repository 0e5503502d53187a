/- ReadNumbers: the statement walked. -/
import Derived.Test.YtbadlhakedppiaaDoorGn
import Derived.Test.YtbadlhakedppiaaDoorGw
namespace Go.Proofs.YtbadlhakedppiaaDoor
set_option maxRecDepth 100000
set_option linter.unusedVariables false
open Go.Lib Go.RowKit Go.Sort
theorem spec_ReadNumbers (s : ByteArray) (hs : s.size ≤ 1048576) (w : World) :
    Calls Tryd.prog 10 #[.string s] w (RetRd (readN s).1 (readN s).2 w) := by
  have C := Lib.hid (fun w => spec_l01NRead s hs w)
  generalize readN s = R at *
  go_enter Tryd.func10, Tryd.ntmps10
  go_wp2_with fail
  refine (C.out _).mono ?_
  rintro _ w1 ⟨v1, rfl, hO, hB⟩
  have H := Lib.hid (And.intro hO hB)
  clear hO hB
  go_wp2
  go_ret2
  exact ⟨v1, rfl, H.out.1, H.out.2⟩
set_option maxHeartbeats 4000000 in
theorem law_ReadNumbers (s : ByteArray) (w : World) (hw : Wd w) :
    Calls Tryd.prog 4 #[.string s] w (LawTrue w) := by
  have HWd := Lib.hid hw
  clear hw
  by_cases hs : s.size ≤ 1048576
  · have hs2 : ¬ (1048576 < (s.size : Int)) := by omega
    have hlen := readN_len s
    have HW := Lib.hid (readN_lt s)
    have HS := Lib.hid (fun w => spec_ReadNumbers s hs w)
    have HI := Lib.hid (fun w h => impl_ReadNumbers s hs w h)
    generalize readN s = R at *
    obtain ⟨ys, b⟩ := R
    dsimp only at hlen HW HS HI
    go_enter Tryd.func4, Tryd.ntmps4
    go_wp2_with fail
    refine (HS.out _).mono ?_
    rintro _ w1 ⟨v1, rfl, hO1, hB1⟩
    obtain ⟨a1, cap1, rfl, hF1, _⟩ := hO1.Fs
    have H1 := Lib.hid (And.intro hF1 hB1)
    clear hO1 hF1 hB1
    go_wp2_with fail
    refine (HI.out _ (HWd.out.below H1.out.2)).mono ?_
    rintro _ w2 ⟨v2, rfl, hO2, hB2⟩
    obtain ⟨a2, cap2, rfl, hF2, _⟩ := hO2.Fs
    have H2 := Lib.hid (And.intro hO2 hB2)
    clear hO2 hF2 hB2
    go_wp2_with fail
    refine (laws_eqFloat32S a2 a1 cap2 cap1 ys ys _ (Ow.fsR H2.out.1) (H1.out.1.below H2.out.2) (by omega) rfl HW.out (fun _ _ => rfl)).mono ?_
    rintro _ _ ⟨n3, rfl, rfl⟩
    go_wp2_with fail
    refine (laws_markFloat32S w1.heap.size a2 cap2 1 ys _ (show Ow (w2.drewN n3) _ _ _ from H2.out.1) (by omega) (by omega) (by omega)).mono ?_
    rintro _ w3 ⟨rfl, hO3, hB3⟩
    have H3 := Lib.hid (And.intro hO3 ((below_drewN' H2.out.2 n3).trans hB3))
    clear hO3 hB3
    go_wp2_with fail
    refine (laws_heldFloat32S a2 cap2 1 ys.length _ (Ow.fsR H3.out.1) (by omega) (by omega) (by omega)).mono ?_
    rintro _ _ ⟨n4, rfl, rfl⟩
    have n1 : ¬ (1 + (ys.length : Int) < 0) := by omega
    go_wp2_with fail
    refine (HI.out _ (HWd.out.below (below_drewN' (H1.out.2.trans (H3.out.2.mono H1.out.2.size)) n4))).mono ?_
    rintro _ w4 ⟨v4, rfl, hO4, hB4⟩
    obtain ⟨a4, cap4, rfl, hF4, _⟩ := hO4.Fs
    have H4 := Lib.hid (And.intro hF4 hB4)
    clear hO4 hF4 hB4
    go_wp2_with fail
    refine (laws_eqFloat32S a4 a1 cap4 cap1 ys ys _ H4.out.1 (((H1.out.1.below H3.out.2).drewN n4).below H4.out.2) (by omega) rfl HW.out (fun _ _ => rfl)).mono ?_
    rintro _ _ ⟨n5, rfl, rfl⟩
    go_wp2_with fail
    refine (laws_heldFloat32S a2 cap2 1 ys.length _ ((((Ow.fsR H3.out.1).drewN n4).below H4.out.2).drewN n5) (by omega) (by omega) (by omega)).mono ?_
    rintro _ _ ⟨n6, rfl, rfl⟩
    go_wp2
    go_ret
    exact ⟨rfl, below_drewN' (H1.out.2.trans ((H3.out.2.mono H1.out.2.size).trans ((below_drewN' (Below.refl _ _) n4).trans (H4.out.2.mono (Nat.le_trans H1.out.2.size H3.out.2.size))))) _⟩
  · have hs2 : 1048576 < (s.size : Int) := by omega
    go_enter Tryd.func4, Tryd.ntmps4
    go_wp2
    go_ret
    exact ⟨rfl, Below.refl _ _⟩
end Go.Proofs.YtbadlhakedppiaaDoor
