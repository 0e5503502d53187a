/- FnNumbers: the statement walked. -/
import Derived.Test.YticeapacffgikaaGreatDoorSf
namespace Go.Proofs.YticeapacffgikaaGreatDoor
set_option maxRecDepth 100000
set_option linter.unusedVariables false
open Go.Lib Go.RowKit
set_option maxHeartbeats 8000000 in
theorem law_FnNumbers (a b : Option Addr) (la ca lb cb : Nat) (w : World) (hA : Bs w a la) (hB : Bs w b lb) (hw : Wd w) :
    Calls Tryz.prog 3 #[.slice a la ca, .slice b lb cb] w (LawTrue w) := by
  have HA := Lib.hid hA
  have HB := Lib.hid hB
  have HW := Lib.hid hw
  clear hA hB hw
  by_cases hL : 1048576 < la ∨ 1048576 < lb
  · have L := Lib.hid (show (decide (1048576 < (la : Int)) || decide (1048576 < (lb : Int))) = true by
      rw [Bool.or_eq_true, decide_eq_true_eq, decide_eq_true_eq]; omega)
    clear hL
    go_enter Tryz.func3, Tryz.ntmps3
    go_wp2_with (go_at_call 4; refine (laws_b10Long _ _ _ _ _ _ _).mono ?_; rw [L.out]; rintro _ _ ⟨n0, rfl, rfl⟩)
    go_ret
    exact ⟨rfl, below_dN⟩
  · have L := Lib.hid (show (decide (1048576 < (la : Int)) || decide (1048576 < (lb : Int))) = false by
      rw [Bool.or_eq_false_iff, decide_eq_false_iff_not, decide_eq_false_iff_not]; omega)
    have hla : la ≤ 1048576 := by omega
    have hlb : lb ≤ 1048576 := by omega
    clear hL
    go_enter Tryz.func3, Tryz.ntmps3
    go_wp2_with (go_at_call 4; refine (laws_b10Long _ _ _ _ _ _ _).mono ?_; rw [L.out]; rintro _ _ ⟨n0, rfl, rfl⟩)
    refine (spec_B10Number a la ca hla _ (HA.out.drewN n0)).mono ?_
    rintro _ w1 ⟨x, hx, rfl, hB1⟩
    have B1 := Lib.hid ((below_dN (w := w) (n := n0)).trans (hB1.mono (Nat.le_refl _)))
    clear hB1
    go_wp2_with fail
    refine (spec_B10Number b lb cb hlb _ (HB.out.later B1.out)).mono ?_
    rintro _ w2 ⟨y, hy, rfl, hB2⟩
    have B2 := Lib.hid (B1.out.trans (hB2.mono B1.out.size))
    clear hB2
    obtain ⟨bc1, bc2, bc3⟩ := canon_bits x hx
    obtain ⟨f1, f2⟩ := flush_law x hx
    have P1 := Lib.hid (fun w => impl_BitsOf x hx w)
    have P2 := Lib.hid (fun w => impl_FromBits ((bitsC (cn .f32 x) : Nat) : Int) w)
    have hfc : fromC ((bitsC (cn .f32 x) : Nat) : Int) = cn .f32 x := by
      unfold fromC
      rw [if_pos (by omega), Int.toNat_natCast, bc3]
    rw [hfc, decide_eq_true (show 0 ≤ ((bitsC (cn .f32 x) : Nat) : Int) ∧ ((bitsC (cn .f32 x) : Nat) : Int) ≤ 4294967295 by omega)] at P2
    generalize bitsC (cn .f32 x) = nb at P1 P2
    clear hfc bc1 bc2 bc3
    go_wp2_with fail
    refine (P1.out _).mono ?_
    rintro _ _ ⟨n1, rfl, rfl⟩
    go_wp2_with fail
    refine (P2.out _).mono ?_
    rintro _ _ ⟨back, n2, rfl, hback, rfl⟩
    have HBK := Lib.hid hback
    clear hback
    go_wp2_with fail
    refine (impl_FlushNumber x hx _).mono ?_
    rintro _ _ ⟨z, n3, rfl, hz, rfl⟩
    have HZ := Lib.hid hz
    clear hz
    go_wp2_with fail
    refine (laws_b10At a la ca 0 12 (by omega) (by omega) _ ((HA.out.later B2.out).drewN _)).mono ?_
    rintro _ _ ⟨m, hm, n4, rfl, rfl⟩
    go_wp2_with fail
    refine (spec_B10Numbers m (by omega) b lb cb hlb _ ((HB.out.later B2.out).drewN _)).mono ?_
    rintro _ w3 ⟨v, xs, rfl, hl, hlt, hO, hB3⟩
    have B3 := Lib.hid (B2.out.trans ((below_dN (w := w2)).trans (hB3.mono (Nat.le_refl _))|>.mono B2.out.size))
    obtain ⟨lp, lcap, rfl, hF, _⟩ := hO.Fs
    have F3 := Lib.hid hF
    have HLT := Lib.hid hlt
    have hxl : xs.length ≤ 12 := by omega
    clear hO hF hlt hB3 hl hm
    go_wp2
    go_loopw [11, 12, 41] (fun sm i ix wr => ∃ (k r nq : Nat), k ≤ xs.length ∧ ix = .int .i64 (k : Nat) ∧ sm = .float .f32 r ∧ Hid (FE .f32 r (sumC (xs.take k))) ∧ wr = w3.drewN nq) (fun _ _ ix _ => xs.length - (Lib.intOf ix).toNat)
    case atStart => exact ⟨0, 0, 0, Nat.zero_le _, rfl, rfl, FE_zero32, rfl⟩
    case round =>
      obtain ⟨k, r, nq, hk, rfl, rfl, hr0, rfl⟩ := hrel
      by_cases hlt : k < xs.length
      · obtain ⟨b1, off1, rfl, _, hc⟩ := F3.out.at (k := k) hlt
        have h1 := hc k hlt
        have ST := Lib.hid (sumC_snoc xs k hlt)
        generalize xs.getD k 0 = xk at *
        have hki : (k : Int) < (xs.length : Nat) := by omega
        have hk0 : (0 : Int) ≤ (k : Nat) := by omega
        clear hc
        go_wp2_with (((first | with_reducible refine up_add _ _ _ _ _ ?_ | with_reducible refine up_sub _ _ _ _ _ ?_ | with_reducible refine up_mul _ _ _ _ _ ?_ | with_reducible refine up_quo _ _ _ _ _ ?_)); intro r nd hr)
        go_roundw
        case rel => exact ⟨k + 1, _, _, by omega, by go_num, rfl, by rw [ST.out, ← hr0.out.out]; exact hr, rfl⟩
        case measure => simp [Lib.intOf]; omega
      · obtain rfl : k = xs.length := by omega
        rw [List.take_length] at hr0
        have hxn : ∀ j, j < xs.length → xs.getD j 0 < 4294967296 := fun j hj => by
          rw [List.getD_eq_getElem?_getD, List.getElem?_eq_getElem hj]
          exact HLT.out _ (List.getElem_mem hj)
        have SU := Lib.hid (fun w hs => impl_SumNumbers lp lcap xs w hs (by omega))
        rw [decide_eq_true (show xs.length ≤ 256 by omega), show sumR xs = sumC xs from if_pos (by omega)] at SU
        have NT := Lib.hid (fun w hs h16 => impl_NumbersText lp lcap xs hxn w hs h16)
        rw [show textN xs = (textB xs, true) from if_pos (by omega)] at NT
        have RD := Lib.hid (fun w hw => impl_ReadNumbers (textB xs) (text_size xs (by omega)) w hw)
        rw [read_text xs (by omega) HLT.out] at RD
        have hbl : (backs xs).length = xs.length := by simp [backs]
        have HXN := Lib.hid hxn
        have HBL := Lib.hid hbl
        clear hxn hbl
        dsimp only at NT RD
        generalize textB xs = tx at *
        go_wp2_with fail
        refine (SU.out _ (F3.out.drewN _)).mono ?_
        rintro _ _ ⟨got, n5, rfl, hgot, rfl⟩
        have HG := Lib.hid (And.intro hgot hr0.out)
        clear hgot
        go_wp2_with fail
        refine (NT.out _ (F3.out.drewN _) ((HW.out.1.below B3.out).below (below_dN (w := w3)))).mono ?_
        rintro _ w4 ⟨rfl, hB4⟩
        have B4 := Lib.hid ((below_dN (w := w3)).trans (hB4.mono (Nat.le_refl _)))
        clear hB4
        go_wp2_with fail
        refine (RD.out _ ((HW.out.below B3.out).below B4.out)).mono ?_
        rintro _ w5 ⟨v5, rfl, hO5, hB5⟩
        obtain ⟨a5, c5, rfl, hF5, _⟩ := hO5.Fs
        have B5 := Lib.hid (B4.out.trans (hB5.mono B4.out.size))
        have F5 := Lib.hid hF5
        have G5 := Lib.hid (F3.out.below B5.out)
        clear hO5 hB5 hF5
        rw [HBL.out]
        have S1 := Lib.hid (fun w => same_true back x (fe32_lt HBK.out) hx HBK.out.out w)
        have I1 := Lib.hid (fun w => (show Calls Tryz.prog 15 #[.float .f32 z] w (RetV (.bool false) w) by
          have := impl_IsSubnormal z (fe32_lt HZ.out) w
          rwa [HZ.out.out, f1] at this))
        have I2 := Lib.hid (fun w => impl_IsSubnormal x hx w)
        have S2 := Lib.hid (fun w => (show Calls Tryz.prog 14 #[.float .f32 x, .float .f32 z] w (RetV (.bool (!isSub (cn .f32 x))) w) by
          have := spec_SameNumber x z hx (fe32_lt HZ.out) w
          rwa [HZ.out.out, f2] at this))
        have S3 := Lib.hid (fun w => same_true got r (fe32_lt HG.out.1) (fe32_lt HG.out.2) (HG.out.1.out.trans HG.out.2.out.symm) w)
        generalize isSub (cn .f32 x) = bs at I2 S2
        have hbs : (bs == !bs) = false := by cases bs <;> rfl
        clear f1 f2
        go_wp2_with fail
        refine (S1.out _).mono ?_
        rintro _ _ ⟨n6, rfl, rfl⟩
        go_wp2_with fail
        refine (I1.out _).mono ?_
        rintro _ _ ⟨n7, rfl, rfl⟩
        go_wp2_with fail
        refine (I2.out _).mono ?_
        rintro _ _ ⟨n8, rfl, rfl⟩
        go_wp2_with fail
        refine (S2.out _).mono ?_
        rintro _ _ ⟨n9, rfl, rfl⟩
        go_wp2_with fail
        refine (S3.out _).mono ?_
        rintro _ _ ⟨n10, rfl, rfl⟩
        clear S1 I1 I2 S2 S3 SU NT RD
        go_wp2
        go_loopw [19, 113] (fun i ix wr => ∃ (k : Nat), k ≤ xs.length ∧ ix = .int .i64 (k : Nat) ∧ Hid (Dr w5 wr)) (fun _ ix _ => xs.length - (Lib.intOf ix).toNat)
        case atStart => exact ⟨0, Nat.zero_le _, rfl, _, rfl⟩
        case round =>
          obtain ⟨k, hk, rfl, hD⟩ := hrel
          by_cases hlt : k < xs.length
          · obtain ⟨b1, off1, rfl, _, hc1⟩ := G5.out.at (k := k) hlt
            obtain ⟨b2, off2, rfl, _, hc2⟩ := F5.out.at (k := k) (by rw [HBL.out]; exact hlt)
            have h1 : wr.cell? ⟨b1, off1 + k, none⟩ = some (.float .f32 (xs.getD k 0)) := by
              obtain ⟨nq, e⟩ := hD.out
              rw [e]; exact hc1 k hlt
            have h2 : wr.cell? ⟨b2, off2 + k, none⟩ = some (.float .f32 (bitsC (cn .f32 (xs.getD k 0)))) := by
              obtain ⟨nq, e⟩ := hD.out
              rw [e, ← getD_map xs k hlt]; exact hc2 k (by rw [HBL.out]; exact hlt)
            have l1 := HXN.out k hlt
            obtain ⟨l2, _, l3⟩ := canon_bits _ l1
            have SQ := Lib.hid (fun w => same_true _ _ l2 l1 l3 w)
            have hki : (k : Int) < (xs.length : Nat) := by omega
            have hk0 : (0 : Int) ≤ (k : Nat) := by omega
            clear hc1 hc2 l1 l2 l3
            generalize bitsC (cn .f32 (xs.getD k 0)) = x5 at *
            generalize xs.getD k 0 = x3 at *
            go_wp2
            go_quiet ((go_at_call 14; refine Calls.quiet_of ((SQ.out _).mono RetV.quiet)))
            go_wp2
            go_roundw
            case rel => exact ⟨k + 1, by omega, by go_num, Dr.drewN hD.out _⟩
            case measure => simp [Lib.intOf]; omega
          · obtain rfl : k = xs.length := by omega
            obtain ⟨nq, rfl⟩ := hD.out
            obtain ⟨c, hc⟩ := impl_angles y x hy hx
            have A1 := Lib.hid hc
            have A2 := Lib.hid (fun w => impl_AngleOf_any x y c hc w)
            have one1 : (FloatKind.f32.format.order 1065353216 1065353216 == some .eq) = true := by decide
            clear hc
            go_wp2_with fail
            refine (A1.out _).mono ?_
            rintro _ w6 ⟨r1, rfl, hr1, hB6⟩
            have B6 := Lib.hid ((B3.out.trans (B5.out.mono B3.out.size)).trans ((below_dN (w := w5)).trans (hB6.mono (Nat.le_refl _))|>.mono (Nat.le_trans B3.out.size B5.out.size)))
            have R1 := Lib.hid hr1
            clear hr1 hB6
            go_wp2_with fail
            refine (A2.out _).mono ?_
            rintro _ w7 ⟨r2, rfl, hr2, hB7⟩
            have B7 := Lib.hid (B6.out.trans (hB7.mono B6.out.size))
            have S4 := Lib.hid (fun w => same_true r1 r2 (fe32_lt R1.out) (fe32_lt hr2) (R1.out.out.trans hr2.out.symm) w)
            clear hr2 hB7
            go_wp2_with fail
            refine (S4.out _).mono ?_
            rintro _ _ ⟨n11, rfl, rfl⟩
            have NB := Lib.hid (narrow_back x hx)
            go_wp2_with ((with_reducible refine up_up _ _ ?_); intro r nd hr)
            have HR := Lib.hid hr
            clear hr
            refine (impl_Narrow _ (by rw [HR.out.out]; exact NB.out.1) _).mono ?_
            rintro _ _ ⟨q, n12, rfl, hq, rfl⟩
            have S5 := Lib.hid (fun w => same_true q x (fe32_lt hq) hx (hq.out.trans (by rw [HR.out.out]; exact NB.out.2)) w)
            clear hq
            go_wp2_with fail
            refine (S5.out _).mono ?_
            rintro _ _ ⟨n13, rfl, rfl⟩
            go_wp2_with fail
            refine (impl_Sine4 _).mono ?_
            rintro _ _ ⟨n14, rfl, rfl⟩
            go_wp2
            go_ret
            exact ⟨rfl, below_drewN' B7.out _⟩
end Go.Proofs.YticeapacffgikaaGreatDoor
