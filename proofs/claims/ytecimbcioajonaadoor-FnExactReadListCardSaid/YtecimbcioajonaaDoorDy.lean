/- ReadList: the statement walked. -/
import Derived.Test.YtecimbcioajonaaDoorDv
import Derived.Test.YtecimbcioajonaaDoorDr
namespace Go.Proofs.YtecimbcioajonaaDoor
set_option maxRecDepth 100000
set_option linter.unusedVariables false
open Go.Lib Go.RowKit Go.Sort Go.Proofs.YtecimbcioajonaaDoorW.PrintWords
theorem listD_len : ∀ (ws : List ByteArray) (l : List Int), listD ws = some l → l.length = ws.length
  | [], l, h => by
    have : some [] = some l := h
    injection this with this
    rw [← this]; rfl
  | x :: r, l, h => by
    have h2 : ((valD x).bind fun n => (listD r).map (n :: ·)) = some l := h
    obtain ⟨n, _, h3⟩ := Option.bind_eq_some_iff.1 h2
    obtain ⟨l', h4, rfl⟩ := Option.map_eq_some_iff.1 h3
    simp [listD_len r l' h4]
theorem readD_len (s : ByteArray) : (readD s).1.length ≤ 64 := by
  rw [readD_parts]
  by_cases h : 64 < (partsD s).length
  · rw [if_pos h]; simp
  · rw [if_neg h]
    cases hl : listD (partsD s) with
    | none => simp
    | some l =>
      have := listD_len _ _ hl
      show l.length ≤ 64
      omega
theorem spec_ReadList' (s : ByteArray) (hs : s.size ≤ 1048576) (w : World) :
    Calls Tryd.prog 18 #[.string s] w (fun e w' => ∃ v, e = .returned (.tuple #[v, .bool (readD s).2]) ∧ Oi w' w.heap.size v (readD s).1 ∧ Below w.heap.size w w') := by
  obtain ⟨k, hk⟩ := (ev_ReadList s hs).rounds
  exact (Go.Proofs.YtecimbcioajonaaDoor.PReadList.spec_ReadList.calls k s _ _ w hk).mono fun e w' ⟨v, h1, h2, h3⟩ => ⟨v, h1, Oi_of_R h2, h3⟩

set_option maxHeartbeats 4000000 in
theorem law_ReadList (s : ByteArray) (w : World) (hw : Wd w) :
    Calls Tryd.prog 7 #[.string s] w (LawTrue w) := by
  have HW := Lib.hid hw
  clear hw
  by_cases hs : s.size ≤ 1048576
  · have hs2 : ¬ (1048576 < (s.size : Int)) := by omega
    have hl := readD_len s
    have P := Lib.hid (fun w => spec_ReadList' s hs w)
    have I := Lib.hid (fun w hw => impl_ReadList s hs w hw)
    generalize readD s = o at hl P I
    obtain ⟨xs, b⟩ := o
    dsimp only at hl P I
    go_enter Tryd.func7, Tryd.ntmps7
    go_wp2_with fail
    refine (P.out _).mono ?_
    rintro _ w1 ⟨v1, rfl, hO1, hB1⟩
    obtain ⟨A1, c1, rfl, hc1, hC1⟩ := hO1.C
    have C1 := Lib.hid hC1
    have B1 := Lib.hid hB1
    clear hO1 hC1 hB1
    go_wp2_with fail
    refine (I.out _ (HW.out.below B1.out)).mono ?_
    rintro _ w2 ⟨v2, rfl, hO2, hB2⟩
    obtain ⟨A2, c2, rfl, hc2, hC2⟩ := hO2.C
    have O2 := Lib.hid hO2
    have C2 := Lib.hid hC2
    have B2 := Lib.hid hB2
    clear hO2 hC2 hB2
    go_wp2_with fail
    refine (laws_eqInt64S' A2 c2 A1 c1 xs (by omega) _ C2.out hc2 (Kd.C_below C1.out B2.out) hc1).mono ?_
    rintro _ w3 ⟨rfl, hB3⟩
    have O3 := Lib.hid (O2.out.below hB3)
    have B3 := Lib.hid (B2.out.trans (hB3.mono B2.out.size))
    clear hB3 C2 O2 B2
    go_wp2_with fail
    refine (laws_markInt64S' w1.heap.size A2 c2 1 xs _ O3.out (by omega) (by omega) (by omega)).mono ?_
    rintro _ w4 ⟨rfl, hO4, hB4⟩
    obtain ⟨A4, c4, e4, _, hC4⟩ := hO4.C
    injection e4 with e4 e5 e6
    subst e4
    clear e5 e6
    have C4 := Lib.hid hC4
    have B4 := Lib.hid (B3.out.trans hB4)
    clear hC4 hB4 hO4 O3 B3
    go_wp2_with fail
    refine (laws_heldInt64S' A2 c2 1 xs.length _ C4.out (by omega) (by omega) (by omega)).mono ?_
    rintro _ w5 ⟨rfl, hB5⟩
    have C5 := Lib.hid (Kd.C_below C4.out (by simpa [marksI_len] using hB5))
    have B5 := Lib.hid (B4.out.trans (hB5.mono B4.out.size))
    clear hB5 C4 B4
    have n1 : ¬ (1 + (xs.length : Int) < 0) := by omega
    go_wp2_with fail
    refine (I.out _ (HW.out.below (B1.out.trans (B5.out.mono B1.out.size)))).mono ?_
    rintro _ w6 ⟨v6, rfl, hO6, hB6⟩
    obtain ⟨A6, c6, rfl, hc6, hC6⟩ := hO6.C
    have C6 := Lib.hid hC6
    have D6 := Lib.hid (Kd.C_below C5.out hB6)
    have B6 := Lib.hid (B5.out.trans (hB6.mono B5.out.size))
    clear hO6 hC6 hB6 C5 B5
    go_wp2_with fail
    refine (laws_eqInt64S' A6 c6 A1 c1 xs (by omega) _ C6.out hc6 (Kd.C_below C1.out B6.out) hc1).mono ?_
    rintro _ w7 ⟨rfl, hB7⟩
    have D7 := Lib.hid (Kd.C_below D6.out hB7)
    have B7 := Lib.hid (B6.out.trans (hB7.mono B6.out.size))
    clear hB7 C6 D6 B6
    go_wp2_with fail
    refine (laws_heldInt64S' A2 c2 1 xs.length _ D7.out (by omega) (by omega) (by omega)).mono ?_
    rintro _ w8 ⟨rfl, hB8⟩
    have B8 := Lib.hid (B1.out.trans ((B7.out.trans (hB8.mono B7.out.size)).mono B1.out.size))
    clear hB8
    go_wp2
    all_goals go_ret
    all_goals first | exact ⟨rfl, B8.out⟩ | (exfalso; simp_all)
  · have hs2 : 1048576 < (s.size : Int) := by omega
    go_enter Tryd.func7, Tryd.ntmps7
    go_wp2
    go_ret
    exact ⟨rfl, Below.refl _ _⟩
end Go.Proofs.YtecimbcioajonaaDoor
