/- FnProducts: the statement walked. -/
import Derived.Test.YtkemghecglbleaaGreatDoorId
import Derived.Test.YtkemghecglbleaaGreatDoorYb
namespace Go.Proofs.YtkemghecglbleaaGreatDoor
set_option maxRecDepth 100000
set_option linter.unusedVariables false
open Go.Lib Go.RowKit
theorem neq_same {a b c d : Nat} {z u : Int} (h1 : Nz .f32 a z) (h2 : Nz .f32 c z) (h3 : Nz .f32 b u) (h4 : Nz .f32 d u) (t : TypeId) (w : World) : (binOp .neq t (.complex .f32 a b) (.complex .f32 c d)).run Tryz.prog w = .ok (.bool false) w := by
  rw [neqI, h1.eq h2, h3.eq h4]; rfl
theorem neq_zero {a b : Nat} {z u : Int} (h1 : Nz .f32 a z) (h3 : Nz .f32 b u) (t : TypeId) (w : World) : (binOp .neq t (.complex .f32 a b) (.complex .f32 0 0)).run Tryz.prog w = .ok (.bool (!(decide (z = 0) && decide (u = 0)))) w := by
  rw [neqI, h1.ne (Nz.zero _), h3.ne (Nz.zero _)]
theorem neq_num {a b : Nat} {z : Int} (h1 : Nz .f32 a z) (h2 : Nz .f32 b z) : (FloatKind.f32.format.order a b != some .eq) = false := by
  have := h1.eq h2
  rw [bne, this]; rfl
theorem whZ_parts {z : Nat × Nat} (h : whZ z) : ∃ (x y : Nat) (m n : Int), z = (x, y) ∧ m.natAbs ≤ 200 ∧ n.natAbs ≤ 200 ∧ Nz .f32 x m ∧ Nz .f32 y n := by
  obtain ⟨m, n, h1, h2, rfl⟩ := h
  exact ⟨_, _, m, n, rfl, h1, h2, Nz.of .f32 (by show _ < 16777216; omega), Nz.of .f32 (by show _ < 16777216; omega)⟩
theorem one_of {zs : List (Nat × Nat)} {P : Nat × Nat → Prop} (h : zs.length = 1) (hP : allZ P zs) : ∃ z, zs = [z] ∧ P z := by
  match zs, h with
  | [z], _ => exact ⟨z, rfl, hP z (by simp)⟩
theorem bd_of {a b : Int} (ha : a.natAbs ≤ 200) (hb : b.natAbs ≤ 200) : -40000 ≤ a * b ∧ a * b ≤ 40000 := by
  have := bd_mul ha hb
  omega
set_option maxHeartbeats 8000000 in
theorem law_FnProducts (a b : Option Addr) (la ca lb cb : Nat) (w : World) (hA : Bs w a la) (hB : Bs w b lb) (hw : Wd w) :
    Calls Tryz.prog 3 #[.slice a la ca, .slice b lb cb] w (LawTrue w) := by
  have HA := Lib.hid hA
  have HB := Lib.hid hB
  have HW := Lib.hid hw
  clear hA hB hw
  by_cases hL : 1048576 < la ∨ 1048576 < lb
  · have L := Lib.hid (show (decide (1048576 < (la : Int)) || decide (1048576 < (lb : Int))) = true by
      rw [Bool.or_eq_true, decide_eq_true_eq, decide_eq_true_eq]; omega)
    clear hL
    go_enter Tryz.func3, Tryz.ntmps3
    go_wp2_with (go_at_call 4; refine (laws_b10Long _ _ _ _ _ _ _).mono ?_; rw [L.out]; rintro _ _ ⟨n0, rfl, rfl⟩)
    go_ret
    exact ⟨rfl, below_dN⟩
  · have L := Lib.hid (show (decide (1048576 < (la : Int)) || decide (1048576 < (lb : Int))) = false by
      rw [Bool.or_eq_false_iff, decide_eq_false_iff_not, decide_eq_false_iff_not]; omega)
    have hla : la ≤ 1048576 := by omega
    have hlb : lb ≤ 1048576 := by omega
    clear hL
    go_enter Tryz.func3, Tryz.ntmps3
    go_wp2_with (go_at_call 4; refine (laws_b10Long _ _ _ _ _ _ _).mono ?_; rw [L.out]; rintro _ _ ⟨n0, rfl, rfl⟩)
    refine (spec_B10Whole a la ca hla _ (HA.out.drewN n0)).mono ?_
    rintro _ w1 ⟨v1, zs1, rfl, hl1, hp1, hO1, hB1⟩
    have B1 := Lib.hid ((below_dN (w := w) (n := n0)).trans (hB1.mono (Nat.le_refl _)))
    obtain ⟨z1, rfl, hz1⟩ := one_of hl1 hp1
    obtain ⟨x1, y1, m1, n1, rfl, bm1, bn1, X1, Y1⟩ := whZ_parts hz1
    obtain ⟨a1, c1, rfl, hF1, _⟩ := hO1.zs
    obtain ⟨g1, rfl, hq1⟩ := hF1.at (k := 0) (by simp)
    have hc1 : w1.cell? ⟨g1, 0, none⟩ = some (.complex .f32 x1 y1) := hq1
    clear hq1
    rw [show [(x1, y1)].length = 1 from rfl]
    clear hB1 hl1 hp1 hO1 hF1 hz1
    go_wp2_with fail
    refine (spec_B10Whole b lb cb hlb _ (HB.out.later B1.out)).mono ?_
    rintro _ w2 ⟨v2, zs2, rfl, hl2, hp2, hO2, hB2⟩
    have B2 := Lib.hid (B1.out.trans (hB2.mono B1.out.size))
    obtain ⟨z2, rfl, hz2⟩ := one_of hl2 hp2
    obtain ⟨x2, y2, m2, n2, rfl, bm2, bn2, X2, Y2⟩ := whZ_parts hz2
    obtain ⟨a2, c2, rfl, hF2, _⟩ := hO2.zs
    obtain ⟨g2, rfl, hq2⟩ := hF2.at (k := 0) (by simp)
    have hc2 : w2.cell? ⟨g2, 0, none⟩ = some (.complex .f32 x2 y2) := hq2
    clear hq2
    rw [show [(x2, y2)].length = 1 from rfl]
    clear hB2 hl2 hp2 hO2 hF2 hz2 hc1
    -- what the parts are as integers
    have i1 := int_of32 x1 m1 X1.int
    have i2 := int_of32 y1 n1 Y1.int
    have i3 := int_of32 x2 m2 X2.int
    have i4 := int_of32 y2 n2 Y2.int
    have k1 := bd_of bm1 bm2
    have k2 := bd_of bn1 bn2
    have k3 := bd_of bm1 bn2
    have k4 := bd_of bn1 bm2
    have k5 := bd_of bm1 bm1
    have k6 := bd_of bn1 bn1
    have L32 : ∀ z : Int, -80000 ≤ z → z ≤ 80000 → Nz .f32 (floatOfInt .f32 z) z := fun z h1 h2 => Nz.of .f32 (by show _ < 16777216; omega)
    obtain ⟨pr, pi, PR, PI, bpr, bpi, hM⟩ := mul_Nz X1 Y1 X2 Y2 bm1 bn1 bm2 bn2
    obtain ⟨qr, qi, QR, QI, _, _, hM2⟩ := mul_Nz X2 Y2 X1 Y1 bm2 bn2 bm1 bn1
    obtain ⟨cr, ci, CR, CI, _, _, hM3⟩ := mul_Nz X1 Y1 X1 Y1.neg bm1 bn1 bm1 (by omega)
    obtain ⟨N, eN, lN, hP⟩ := power_Nz X1 Y1 bm1 bn1
    have hPO := powerOf_Nz lN hP
    have hLO := long_Nz lN hP
    rw [eN] at hPO hLO
    have NP := L32 (m1 * m1 + n1 * n1) (by omega) (by omega)
    have E1 := neq_same PR (L32 (m1 * m2 - n1 * n2) (by omega) (by omega)) PI (L32 (m1 * n2 + n1 * m2) (by omega) (by omega))
    have E2 := neq_same QR (by rw [show m2 * m1 - n2 * n1 = m1 * m2 - n1 * n2 by grind]; exact PR) QI (by rw [show m2 * n1 + n2 * m1 = m1 * n2 + n1 * m2 by grind]; exact PI)
    have E3 := neq_num NP NP
    have E4 := neq_same CR (by rw [show m1 * m1 - n1 * (-n1) = m1 * m1 + n1 * n1 by grind]; exact NP) CI (by rw [show m1 * (-n1) + n1 * m1 = 0 by grind]; exact Nz.zero .f32)
    have M1 := Lib.hid hM
    have M2 := Lib.hid hM2
    have M3 := Lib.hid hM3
    have PO := Lib.hid hPO
    have LO := Lib.hid hLO
    have RN := Lib.hid (spec_RootNumber _ NP.lt)
    have CJ := Lib.hid (impl_ConjI x1 y1)
    obtain ⟨sr, si, ar, ai, SR, SI, AR, AI, hS, hADD⟩ := scale_Nz X1 Y1 bm1 bn1
    have E5 := neq_same SR (by rw [show m1 * 2 = m1 + m1 by omega]; exact AR) SI (by rw [show n1 * 2 = n1 + n1 by omega]; exact AI)
    have SCA := Lib.hid hS
    have ZB := neq_zero X2 Y2
    have QU := Lib.hid (fun h0 => quo_Nz PR PI X2 Y2 bpr bpi bm1 bn1 bm2 bn2 h0)
    have XY := Lib.hid (And.intro X1 Y1)
    clear X1 Y1 X2 Y2 PR PI QR QI CR CI SR SI AR AI hM hM2 hM3 hP hPO hLO hS L32 NP bpr bpi lN eN
    generalize Op.negFloat .f32 y1 = ny1 at *
    go_wp2_with fail
    refine (M1.out _).mono ?_
    rintro _ _ ⟨n3, rfl, rfl⟩
    go_wp2_with fail
    refine (M2.out _).mono ?_
    rintro _ _ ⟨n4, rfl, rfl⟩
    go_wp2_with fail
    refine (PO.out _).mono ?_
    rintro _ _ ⟨n5, rfl, rfl⟩
    go_wp2_with fail
    refine (CJ.out _).mono ?_
    rintro _ _ ⟨n6, rfl, rfl⟩
    go_wp2_with fail
    refine (M3.out _).mono ?_
    rintro _ _ ⟨n7, rfl, rfl⟩
    go_wp2_with fail
    refine (LO.out _).mono ?_
    rintro _ _ ⟨lr, n8, rfl, hlr, rfl⟩
    have HLR := Lib.hid hlr
    clear hlr
    go_wp2_with fail
    refine (RN.out _).mono ?_
    rintro _ _ ⟨rr, n9, rfl, hrr, rfl⟩
    have SM := Lib.hid (fun w => same_true lr rr (fe32_lt HLR.out) (fe32_lt hrr) (HLR.out.out.trans hrr.out.symm) w)
    clear hrr
    go_wp2_with fail
    refine (SM.out _).mono ?_
    rintro _ _ ⟨n10, rfl, rfl⟩
    clear M1 M2 M3 PO LO RN CJ SM HLR i1 i2 i3 i4 E1 E2 E3 E4 k1 k2 k3 k4 k5 k6
    by_cases hz : m2 = 0 ∧ n2 = 0
    · have hzb : (!(decide (m2 = 0) && decide (n2 = 0))) = false := by rw [decide_eq_true hz.1, decide_eq_true hz.2]; rfl
      rw [hzb] at ZB
      clear QU hzb
      go_wp2_with fail
      refine (SCA.out _).mono ?_
      rintro _ _ ⟨n15, rfl, rfl⟩
      clear SCA
      go_wp2_with fail
      refine (laws_b10At a la ca 0 9 (by omega) (by omega) _ ((HA.out.later B2.out).drewN _)).mono ?_
      rintro _ _ ⟨m, hm, n16, rfl, rfl⟩
      go_wp2_with fail
      refine (spec_B10Any m (by omega) b lb cb hlb _ ((HB.out.later B2.out).drewN _)).mono ?_
      rintro _ w3 ⟨v, zs, rfl, hl, hlt, hO, hB3⟩
      have B3 := Lib.hid (B2.out.trans ((below_dN (w := w2)).trans (hB3.mono (Nat.le_refl _))|>.mono B2.out.size))
      obtain ⟨lp, lcap, rfl, hF, _⟩ := hO.zs
      have F3 := Lib.hid hF
      have HLT := Lib.hid hlt
      have hxl : zs.length ≤ 9 := by omega
      have CT := Lib.hid (fun w hs h16 => impl_ComplexText lp lcap zs (fun j hj => HLT.out _ (by rw [List.getD_eq_getElem?_getD, List.getElem?_eq_getElem hj]; exact List.getElem_mem hj)) (by omega) w hs h16)
      have RD := Lib.hid (fun w hw => impl_ReadComplex (textZ zs) (textZ_size zs (by omega)) w hw)
      rw [read_textZ zs (by omega) hlt] at RD
      have hbl : (backZ zs).length = zs.length := by simp [backZ]
      have HBL := Lib.hid hbl
      clear hO hF hlt hB3 hl hm hbl
      dsimp only at RD
      generalize textZ zs = tx at *
      go_wp2_with fail
      refine (CT.out _ F3.out (HW.out.1.below B3.out)).mono ?_
      rintro _ w4 ⟨rfl, hB4⟩
      have B4 := Lib.hid (B3.out.trans (hB4.mono B3.out.size))
      have F4 := Lib.hid (F3.out.below hB4)
      clear hB4 CT
      go_wp2_with fail
      refine (RD.out _ (HW.out.below B4.out)).mono ?_
      rintro _ w5 ⟨v5, rfl, hO5, hB5⟩
      obtain ⟨a5, c5, rfl, hF5, _⟩ := hO5.zs
      have B5 := Lib.hid (B4.out.trans (hB5.mono B4.out.size))
      have G5 := Lib.hid hF5
      have F5 := Lib.hid (F4.out.below hB5)
      clear hO5 hB5 hF5 RD
      rw [HBL.out]
      go_wp2_with fail
      refine (spec_B10Number a la ca hla _ (HA.out.later B5.out)).mono ?_
      rintro _ w6 ⟨z, hz6, rfl, hB6⟩
      have B6 := Lib.hid (B5.out.trans (hB6.mono B5.out.size))
      have G6 := Lib.hid (G5.out.below hB6)
      have F6 := Lib.hid (F5.out.below hB6)
      clear hB6
      obtain ⟨bc1, bc2, bc3⟩ := canon_bits z hz6
      have P1 := Lib.hid (fun w => impl_BitsOf z hz6 w)
      have P2 := Lib.hid (fun w => impl_FromBits ((bitsC (cn .f32 z) : Nat) : Int) w)
      have hfc : fromC ((bitsC (cn .f32 z) : Nat) : Int) = cn .f32 z := by
        unfold fromC
        rw [if_pos (by omega), Int.toNat_natCast, bc3]
      rw [hfc, decide_eq_true (show 0 ≤ ((bitsC (cn .f32 z) : Nat) : Int) ∧ ((bitsC (cn .f32 z) : Nat) : Int) ≤ 4294967295 by omega)] at P2
      generalize bitsC (cn .f32 z) = nb at P1 P2
      clear hfc bc1 bc2 bc3
      go_wp2_with fail
      refine (P1.out _).mono ?_
      rintro _ _ ⟨n17, rfl, rfl⟩
      go_wp2_with fail
      refine (P2.out _).mono ?_
      rintro _ _ ⟨again, n18, rfl, hag, rfl⟩
      have S1 := Lib.hid (fun w => same_true again z (fe32_lt hag) hz6 hag.out w)
      clear hag P1 P2
      go_wp2_with fail
      refine (spec_B10Complex a la ca hla _ ((HA.out.later B6.out).drewN _)).mono ?_
      rintro _ w7 ⟨x7, y7, hx7, hy7, rfl, hB7⟩
      have B7 := Lib.hid (B6.out.trans ((below_dN (w := w6)).trans (hB7.mono (Nat.le_refl _))|>.mono B6.out.size))
      have G7 := Lib.hid ((G6.out.drewN _).below hB7)
      have F7 := Lib.hid ((F6.out.drewN _).below hB7)
      clear hB7
      have NX := Lib.hid (narrow_back x7 hx7)
      have NY := Lib.hid (narrow_back y7 hy7)
      have SC := Lib.hid (fun w h1 h2 => laws_b10SameI a5 lp c5 lcap zs (backZ zs) w h1 h2 HBL.out (by omega) HLT.out rfl)
      have CJ1 := Lib.hid (impl_ConjI x7 y7)
      have CJ2 := Lib.hid (impl_ConjI x7 (Op.negFloat .f32 y7))
      rw [conj_back y7 hy7] at CJ2
      generalize Op.negFloat .f32 y7 = ny at *
      have S3 := Lib.hid (fun w => impl_SameC_true x7 y7 x7 y7 hx7 hy7 hx7 hy7 rfl rfl w)
      have fc := impl_FiniteC x7 y7
      have fx := spec_IsFinite x7
      have fy := spec_IsFinite y7
      generalize isFin (cn .f32 x7) = bx at fc fx
      generalize isFin (cn .f32 y7) = bv at fc fy
      have FC := Lib.hid fc
      have FX := Lib.hid fx
      have FY := Lib.hid fy
      clear fc fx fy
      go_wp2_with (first | ((with_reducible refine up_up _ x7 ?_); intro wx ndx hwx) | ((with_reducible refine up_up _ y7 ?_); intro wy ndy hwy))
      have HWX := Lib.hid hwx
      have HWY := Lib.hid hwy
      clear hwx hwy
      refine (SC.out _ (G7.out.drewN _) (F7.out.drewN _)).mono ?_
      rintro _ _ ⟨n19, rfl, rfl⟩
      go_wp2_with fail
      refine (S1.out _).mono ?_
      rintro _ _ ⟨n20, rfl, rfl⟩
      go_wp2_with fail
      refine (impl_NarrowI wx wy (by rw [HWX.out.out]; exact NX.out.1) (by rw [HWY.out.out]; exact NY.out.1) _).mono ?_
      rintro _ _ ⟨qx, qy, n21, rfl, hqx, hqy, rfl⟩
      have S2 := Lib.hid (fun w => impl_SameC_true qx qy x7 y7 (fe32_lt hqx) (fe32_lt hqy) hx7 hy7 (hqx.out.trans (by rw [HWX.out.out]; exact NX.out.2)) (hqy.out.trans (by rw [HWY.out.out]; exact NY.out.2)) w)
      clear hqx hqy
      go_wp2_with fail
      refine (S2.out _).mono ?_
      rintro _ _ ⟨n22, rfl, rfl⟩
      go_wp2_with fail
      refine (CJ1.out _).mono ?_
      rintro _ _ ⟨n23, rfl, rfl⟩
      go_wp2_with fail
      refine (CJ2.out _).mono ?_
      rintro _ _ ⟨n24, rfl, rfl⟩
      go_wp2_with fail
      refine (S3.out _).mono ?_
      rintro _ _ ⟨n25, rfl, rfl⟩
      go_wp2_with fail
      refine (FC.out _).mono ?_
      rintro _ w8 ⟨rfl, hB8⟩
      have B8 := Lib.hid (B7.out.trans ((below_dN (w := w7)).trans (hB8.mono (Nat.le_refl _))|>.mono B7.out.size))
      clear hB8
      go_wp2_with fail
      refine (FX.out _).mono ?_
      rintro _ _ ⟨n26, rfl, rfl⟩
      cases bx
      · go_wp2
        go_ret
        exact ⟨rfl, below_drewN' B8.out _⟩
      · go_wp2_with fail
        refine (FY.out _).mono ?_
        rintro _ _ ⟨n27, rfl, rfl⟩
        go_wp2
        go_ret
        exact ⟨by cases bv <;> rfl, below_drewN' B8.out _⟩
    · have hzb : (!(decide (m2 = 0) && decide (n2 = 0))) = true := by
        rw [← Bool.decide_and, decide_eq_false hz]; rfl
      rw [hzb] at ZB
      obtain ⟨ur, ui, UR, UI, hQ⟩ := QU.out hz
      have E6 := neq_same UR XY.out.1 UI XY.out.2
      have QQ := Lib.hid hQ
      clear QU hzb UR UI hQ
      go_wp2_with fail
      refine (QQ.out _).mono ?_
      rintro _ _ ⟨n11, rfl, rfl⟩
      clear QQ
      go_wp2_with fail
      refine (SCA.out _).mono ?_
      rintro _ _ ⟨n15, rfl, rfl⟩
      clear SCA
      go_wp2_with fail
      refine (laws_b10At a la ca 0 9 (by omega) (by omega) _ ((HA.out.later B2.out).drewN _)).mono ?_
      rintro _ _ ⟨m, hm, n16, rfl, rfl⟩
      go_wp2_with fail
      refine (spec_B10Any m (by omega) b lb cb hlb _ ((HB.out.later B2.out).drewN _)).mono ?_
      rintro _ w3 ⟨v, zs, rfl, hl, hlt, hO, hB3⟩
      have B3 := Lib.hid (B2.out.trans ((below_dN (w := w2)).trans (hB3.mono (Nat.le_refl _))|>.mono B2.out.size))
      obtain ⟨lp, lcap, rfl, hF, _⟩ := hO.zs
      have F3 := Lib.hid hF
      have HLT := Lib.hid hlt
      have hxl : zs.length ≤ 9 := by omega
      have CT := Lib.hid (fun w hs h16 => impl_ComplexText lp lcap zs (fun j hj => HLT.out _ (by rw [List.getD_eq_getElem?_getD, List.getElem?_eq_getElem hj]; exact List.getElem_mem hj)) (by omega) w hs h16)
      have RD := Lib.hid (fun w hw => impl_ReadComplex (textZ zs) (textZ_size zs (by omega)) w hw)
      rw [read_textZ zs (by omega) hlt] at RD
      have hbl : (backZ zs).length = zs.length := by simp [backZ]
      have HBL := Lib.hid hbl
      clear hO hF hlt hB3 hl hm hbl
      dsimp only at RD
      generalize textZ zs = tx at *
      go_wp2_with fail
      refine (CT.out _ F3.out (HW.out.1.below B3.out)).mono ?_
      rintro _ w4 ⟨rfl, hB4⟩
      have B4 := Lib.hid (B3.out.trans (hB4.mono B3.out.size))
      have F4 := Lib.hid (F3.out.below hB4)
      clear hB4 CT
      go_wp2_with fail
      refine (RD.out _ (HW.out.below B4.out)).mono ?_
      rintro _ w5 ⟨v5, rfl, hO5, hB5⟩
      obtain ⟨a5, c5, rfl, hF5, _⟩ := hO5.zs
      have B5 := Lib.hid (B4.out.trans (hB5.mono B4.out.size))
      have G5 := Lib.hid hF5
      have F5 := Lib.hid (F4.out.below hB5)
      clear hO5 hB5 hF5 RD
      rw [HBL.out]
      go_wp2_with fail
      refine (spec_B10Number a la ca hla _ (HA.out.later B5.out)).mono ?_
      rintro _ w6 ⟨z, hz6, rfl, hB6⟩
      have B6 := Lib.hid (B5.out.trans (hB6.mono B5.out.size))
      have G6 := Lib.hid (G5.out.below hB6)
      have F6 := Lib.hid (F5.out.below hB6)
      clear hB6
      obtain ⟨bc1, bc2, bc3⟩ := canon_bits z hz6
      have P1 := Lib.hid (fun w => impl_BitsOf z hz6 w)
      have P2 := Lib.hid (fun w => impl_FromBits ((bitsC (cn .f32 z) : Nat) : Int) w)
      have hfc : fromC ((bitsC (cn .f32 z) : Nat) : Int) = cn .f32 z := by
        unfold fromC
        rw [if_pos (by omega), Int.toNat_natCast, bc3]
      rw [hfc, decide_eq_true (show 0 ≤ ((bitsC (cn .f32 z) : Nat) : Int) ∧ ((bitsC (cn .f32 z) : Nat) : Int) ≤ 4294967295 by omega)] at P2
      generalize bitsC (cn .f32 z) = nb at P1 P2
      clear hfc bc1 bc2 bc3
      go_wp2_with fail
      refine (P1.out _).mono ?_
      rintro _ _ ⟨n17, rfl, rfl⟩
      go_wp2_with fail
      refine (P2.out _).mono ?_
      rintro _ _ ⟨again, n18, rfl, hag, rfl⟩
      have S1 := Lib.hid (fun w => same_true again z (fe32_lt hag) hz6 hag.out w)
      clear hag P1 P2
      go_wp2_with fail
      refine (spec_B10Complex a la ca hla _ ((HA.out.later B6.out).drewN _)).mono ?_
      rintro _ w7 ⟨x7, y7, hx7, hy7, rfl, hB7⟩
      have B7 := Lib.hid (B6.out.trans ((below_dN (w := w6)).trans (hB7.mono (Nat.le_refl _))|>.mono B6.out.size))
      have G7 := Lib.hid ((G6.out.drewN _).below hB7)
      have F7 := Lib.hid ((F6.out.drewN _).below hB7)
      clear hB7
      have NX := Lib.hid (narrow_back x7 hx7)
      have NY := Lib.hid (narrow_back y7 hy7)
      have SC := Lib.hid (fun w h1 h2 => laws_b10SameI a5 lp c5 lcap zs (backZ zs) w h1 h2 HBL.out (by omega) HLT.out rfl)
      have CJ1 := Lib.hid (impl_ConjI x7 y7)
      have CJ2 := Lib.hid (impl_ConjI x7 (Op.negFloat .f32 y7))
      rw [conj_back y7 hy7] at CJ2
      generalize Op.negFloat .f32 y7 = ny at *
      have S3 := Lib.hid (fun w => impl_SameC_true x7 y7 x7 y7 hx7 hy7 hx7 hy7 rfl rfl w)
      have fc := impl_FiniteC x7 y7
      have fx := spec_IsFinite x7
      have fy := spec_IsFinite y7
      generalize isFin (cn .f32 x7) = bx at fc fx
      generalize isFin (cn .f32 y7) = bv at fc fy
      have FC := Lib.hid fc
      have FX := Lib.hid fx
      have FY := Lib.hid fy
      clear fc fx fy
      go_wp2_with (first | ((with_reducible refine up_up _ x7 ?_); intro wx ndx hwx) | ((with_reducible refine up_up _ y7 ?_); intro wy ndy hwy))
      have HWX := Lib.hid hwx
      have HWY := Lib.hid hwy
      clear hwx hwy
      refine (SC.out _ (G7.out.drewN _) (F7.out.drewN _)).mono ?_
      rintro _ _ ⟨n19, rfl, rfl⟩
      go_wp2_with fail
      refine (S1.out _).mono ?_
      rintro _ _ ⟨n20, rfl, rfl⟩
      go_wp2_with fail
      refine (impl_NarrowI wx wy (by rw [HWX.out.out]; exact NX.out.1) (by rw [HWY.out.out]; exact NY.out.1) _).mono ?_
      rintro _ _ ⟨qx, qy, n21, rfl, hqx, hqy, rfl⟩
      have S2 := Lib.hid (fun w => impl_SameC_true qx qy x7 y7 (fe32_lt hqx) (fe32_lt hqy) hx7 hy7 (hqx.out.trans (by rw [HWX.out.out]; exact NX.out.2)) (hqy.out.trans (by rw [HWY.out.out]; exact NY.out.2)) w)
      clear hqx hqy
      go_wp2_with fail
      refine (S2.out _).mono ?_
      rintro _ _ ⟨n22, rfl, rfl⟩
      go_wp2_with fail
      refine (CJ1.out _).mono ?_
      rintro _ _ ⟨n23, rfl, rfl⟩
      go_wp2_with fail
      refine (CJ2.out _).mono ?_
      rintro _ _ ⟨n24, rfl, rfl⟩
      go_wp2_with fail
      refine (S3.out _).mono ?_
      rintro _ _ ⟨n25, rfl, rfl⟩
      go_wp2_with fail
      refine (FC.out _).mono ?_
      rintro _ w8 ⟨rfl, hB8⟩
      have B8 := Lib.hid (B7.out.trans ((below_dN (w := w7)).trans (hB8.mono (Nat.le_refl _))|>.mono B7.out.size))
      clear hB8
      go_wp2_with fail
      refine (FX.out _).mono ?_
      rintro _ _ ⟨n26, rfl, rfl⟩
      cases bx
      · go_wp2
        go_ret
        exact ⟨rfl, below_drewN' B8.out _⟩
      · go_wp2_with fail
        refine (FY.out _).mono ?_
        rintro _ _ ⟨n27, rfl, rfl⟩
        go_wp2
        go_ret
        exact ⟨by cases bv <;> rfl, below_drewN' B8.out _⟩
end Go.Proofs.YtkemghecglbleaaGreatDoor
