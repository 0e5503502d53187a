/- ReadComplex on the reference's side; the statement walked. -/
import Derived.Test.YtbadlhakedppiaaDoorGy
import Derived.Test.YtbadlhakedppiaaDoorGw
namespace Go.Proofs.YtbadlhakedppiaaDoor
set_option maxRecDepth 100000
set_option linter.unusedVariables false
open Go.Lib Go.RowKit Go.Sort
/-- a number and whether it is one; nothing but draws -/
def RetDd (o : Option Nat) (w : World) (e : Ending) (w' : World) : Prop := ∃ (x n : Nat), e = .returned (.tuple #[.float .f32 x, .bool o.isSome]) ∧ (∀ m, o = some m → x = m) ∧ w' = w.drewN n
theorem RetDd.no {o : Option Nat} (h : o = none) (w : World) (n x : Nat) : RetDd o w (.returned (.tuple #[.float .f32 x, .bool false])) (w.drewN n) := ⟨x, n, by rw [h]; rfl, (fun m hm => by rw [h] at hm; cases hm), rfl⟩
theorem RetDd.no0 {o : Option Nat} (h : o = none) (w : World) (x : Nat) : RetDd o w (.returned (.tuple #[.float .f32 x, .bool false])) w := ⟨x, 0, by rw [h]; rfl, (fun m hm => by rw [h] at hm; cases hm), rfl⟩
theorem RetDd.yes {o : Option Nat} {m : Nat} (h : o = some m) (w : World) (n : Nat) : RetDd o w (.returned (.tuple #[.float .f32 m, .bool true])) (w.drewN n) := ⟨m, n, by rw [h]; rfl, (fun k hk => by rw [h] at hk; injection hk), rfl⟩
set_option maxHeartbeats 4000000 in
theorem spec_l01Digits (p : ByteArray) (hp : p.size = 8) (w : World) :
    Calls Tryd.prog 40 #[.string p] w (RetDd (digS p.data.toList) w) := by
  have H8 := Lib.hid hp
  have hp1 : (p.size : Int) ≤ 8 := by omega
  have hp2 : p.size ≤ 8 := by omega
  have hp3 : 8 ≤ p.size := by omega
  generalize hO : digS p.data.toList = o
  have HO := Lib.hid hO
  clear hp hO
  go_enter Tryd.func40, Tryd.ntmps40
  go_wp2
  go_loop [4, 5, 6] (fun n q d => ∃ (j m : Nat), j ≤ 8 ∧ n = .int .i64 (m : Nat) ∧ q = .int .i64 (j : Nat) ∧ Hid (FoldAt p.data.toList j m)) (fun _ q _ => 8 - (Lib.intOf q).toNat)
  case atStart => exact ⟨0, 0, Nat.zero_le _, rfl, rfl, FoldAt.zero _⟩
  case round =>
    obtain ⟨j, m, hj, rfl, rfl, hF⟩ := hrel
    by_cases hj8 : j < 8
    · have hjp : j < p.size := by omega
      have hm := hF.out.lt hj8
      have BC := sdg_cases p[j]
      have FN := Lib.hid (fun d h => hF.out.next hjp (d := d) h)
      have FF := Lib.hid (fun h => hF.out.no hjp h)
      have t2 : (j : Int) < p.size := by omega
      have t3 : (0 : Int) ≤ j := by omega
      rcases BC with ⟨l1, l2, hd⟩ | ⟨l1, l2, hd⟩ | ⟨l1, hd⟩ | ⟨l1, l2, hd⟩ | ⟨l1, hd⟩
      · have F2 := Lib.hid (FN.out _ hd)
        clear hd FN FF
        generalize hcc : p[j].toNat = c at *
        have x1 : (c : Int) ≥ 48 := by omega
        have x2 : (c : Int) ≤ 57 := by omega
        have x3 : ¬ (c : Int) ≥ 97 := by omega
        have x4 : ¬ ((c : Int) - 48 < 0) := by omega
        have x5 := Lib.hid (show 16 * (m : Int) + ((c : Int) - 48) = ((16 * m + (c - 48) : Nat) : Int) by omega)
        go_wp2
        rw [x5.out]
        go_round
        case rel => exact ⟨j + 1, 16 * m + (c - 48), by omega, rfl, by go_num, F2.out⟩
        case measure => simp [Lib.intOf]; omega
      · have F2 := Lib.hid (FN.out _ hd)
        clear hd FN FF
        generalize hcc : p[j].toNat = c at *
        have x1 : (c : Int) ≥ 48 := by omega
        have x2 : ¬ (c : Int) ≤ 57 := by omega
        have x3 : (c : Int) ≥ 97 := by omega
        have x6 : (c : Int) ≤ 102 := by omega
        have x4 : ¬ ((c : Int) - 97 + 10 < 0) := by omega
        have x5 := Lib.hid (show 16 * (m : Int) + ((c : Int) - 97 + 10) = ((16 * m + (c - 87) : Nat) : Int) by omega)
        go_wp2
        rw [x5.out]
        go_round
        case rel => exact ⟨j + 1, 16 * m + (c - 87), by omega, rfl, by go_num, F2.out⟩
        case measure => simp [Lib.intOf]; omega
      · have E := Lib.hid (HO.out.symm.trans (FF.out hd))
        clear hd FN FF
        generalize hcc : p[j].toNat = c at *
        have x1 : ¬ (c : Int) ≥ 48 := by omega
        have x3 : ¬ (c : Int) ≥ 97 := by omega
        go_wp2
        go_ret2
        exact RetDd.no0 E.out _ _
      · have E := Lib.hid (HO.out.symm.trans (FF.out hd))
        clear hd FN FF
        generalize hcc : p[j].toNat = c at *
        have x1 : (c : Int) ≥ 48 := by omega
        have x2 : ¬ (c : Int) ≤ 57 := by omega
        have x3 : ¬ (c : Int) ≥ 97 := by omega
        go_wp2
        go_ret2
        exact RetDd.no0 E.out _ _
      · have E := Lib.hid (HO.out.symm.trans (FF.out hd))
        clear hd FN FF
        generalize hcc : p[j].toNat = c at *
        have x1 : (c : Int) ≥ 48 := by omega
        have x2 : ¬ (c : Int) ≤ 57 := by omega
        have x3 : (c : Int) ≥ 97 := by omega
        have x6 : ¬ (c : Int) ≤ 102 := by omega
        go_wp2
        go_ret2
        exact RetDd.no0 E.out _ _
    · obtain rfl : j = 8 := by omega
      obtain ⟨hm, hd⟩ := hF.out.full H8.out
      have CF := Lib.hid (fun w => spec_l01From (m : Int) (by omega) (by omega) w)
      have CB := Lib.hid (fun w => spec_l01Bits m hm w)
      have t2 : ¬ (8 : Int) < p.size := by omega
      rw [bitsC_canon hm] at CB
      by_cases hcn : canon m = m
      · rw [if_pos hcn] at hd
        rw [hcn] at CB
        have E := Lib.hid (HO.out.symm.trans hd)
        clear hd hcn hF
        go_wp2_with fail
        refine (CF.out _).mono ?_
        rintro _ _ ⟨n1, rfl, rfl⟩
        rw [Int.toNat_natCast]
        go_wp2_with fail
        refine (CB.out _).mono ?_
        rintro _ _ ⟨n2, rfl, rfl⟩
        go_wp2
        go_ret2
        exact RetDd.yes E.out _ _
      · rw [if_neg hcn] at hd
        have E := Lib.hid (HO.out.symm.trans hd)
        have hne := bits_neq hcn
        generalize canon m = cm at *
        clear hd hcn hF
        go_wp2_with fail
        refine (CF.out _).mono ?_
        rintro _ _ ⟨n1, rfl, rfl⟩
        rw [Int.toNat_natCast]
        go_wp2_with fail
        refine (CB.out _).mono ?_
        rintro _ _ ⟨n2, rfl, rfl⟩
        go_wp2
        go_ret2
        exact RetDd.no E.out _ _ _
set_option maxHeartbeats 8000000 in
theorem spec_l01CRead (s : ByteArray) (hs : s.size ≤ 1048576) (w : World) :
    Calls Tryd.prog 27 #[.string s] w (RetRz (readC s).1 (readC s).2 w) := by
  by_cases h0 : s.data.toList = [110, 111, 110, 101]
  · have E := Lib.hid (show readC s = ([], true) by unfold readC partsD; rw [if_pos h0]; rfl)
    obtain ⟨e1, e2⟩ := none_yes h0
    have O1 := Lib.hid (Oz_empty w w.heap.size (Nat.le_refl _))
    clear h0
    go_enter Tryd.func27, Tryd.ntmps27
    go_wp2
    go_ret2
    exact ⟨.slice (some ⟨w.heap.size, 0, none⟩) 0 0, by rw [E.out]; rfl, by rw [E.out]; exact O1.out, (Below.refl _ _).alloc (Nat.le_refl _) _⟩
  · obtain ⟨e1, e2⟩ := none_no h0
    have hpl := cutB_len s
    have hz := cutB_size s
    have RN := Lib.hid (show readC s = if 256 < (cutB s).length then ([], false) else match digz (cutB s) with
      | some l => (l, true)
      | none => ([], false) by unfold readC partsD; rw [if_neg h0]; rfl)
    have C := Lib.hid (fun w => spec_l01Cut s hs w)
    have O0 := Lib.hid (Oz_empty w w.heap.size (Nat.le_refl _))
    generalize cutB s = ps at *
    generalize readC s = R at *
    clear h0
    go_enter Tryd.func27, Tryd.ntmps27
    go_wp2_with fail
    refine (C.out _).mono ?_
    rintro _ w1 ⟨v1, rfl, hO1, hB1⟩
    obtain ⟨a, cap, rfl, hS⟩ := hO1.sx (g := w.heap.size) (by simp)
    have S1 := Lib.hid hS
    have B1 := Lib.hid (((Below.refl _ _).alloc (Nat.le_refl w.heap.size) (.cells #[] 47)).trans (hB1.mono (by simp)))
    have O1 := Lib.hid (O0.out.below hB1)
    clear hS hB1 hO1 C O0
    by_cases hg : 256 < ps.length
    · have hg2 : (ps.length : Int) > 256 := by omega
      have E := Lib.hid (show R = ([], false) by rw [RN.out, if_pos hg])
      go_wp2
      go_ret2
      exact ⟨.slice none 0 0, by rw [E.out]; rfl, by rw [E.out]; exact Oz_nil _ _, B1.out⟩
    · have hg2 : ¬ (ps.length : Int) > 256 := by omega
      go_wp2
      go_loopw [4, 6, 7, 8, 9, 10] (fun v i x1 o1 x2 o2 wr => ∃ (k : Nat) (l : List (Nat × Nat)), k ≤ ps.length ∧ l.length = k ∧ i = .int .i64 (k : Nat) ∧ Hid (Oz wr w.heap.size v l) ∧ Hid (ZAt ps k l) ∧ Hid (Sx wr a ps v.ownBlock) ∧ Hid (Below w.heap.size w wr)) (fun _ i _ _ _ _ _ => ps.length - (Lib.intOf i).toNat)
      case atStart => exact ⟨0, [], Nat.zero_le _, rfl, rfl, O1.out, ZAt.zero ps, S1.out, B1.out⟩
      case round =>
        clear S1 B1 O1
        obtain ⟨k, l, hk, hlk, rfl, hO, hD, hS, hB⟩ := hrel
        by_cases hlt : k < ps.length
        · obtain ⟨b, rfl, hc⟩ := hS.out.at hlt
          have hzk := hz ps[k] (List.getElem_mem hlt)
          have DN := Lib.hid (fun n h => hD.out.next hlt (n := n) h)
          have DF := Lib.hid (fun h => hD.out.no hlt h)
          have s1 : (0 : Int) ≤ (k : Nat) := by omega
          have s2 : (k : Int) < (ps.length : Nat) := by omega
          generalize ps[k] = p at *
          have stop := Lib.hid (fun (h : digC p = none) => (show R = ([], false) by rw [RN.out, if_neg hg, DF.out h]))
          by_cases h16 : p.size = 16
          · have h16b : ((p.size : Int) != 16) = false := by rw [h16]; rfl
            have z1 : (8 : Int) ≤ (p.size : Int) := by omega
            have z2 : 8 ≤ p.size := by omega
            have D1 := Lib.hid (fun a b ha hb => digC_some h16 (a := a) (b := b) ha hb)
            have D2 := Lib.hid (fun ha => stop.out (digC_no1 ha))
            have D3 := Lib.hid (fun hb => stop.out (digC_no2 hb))
            have RC1 := fun w => spec_l01Digits (p.extract 0 8) (ext08 h16) w
            have RC2 := fun w => spec_l01Digits (p.extract 8 p.size) (ext8n h16) w
            generalize digS (p.extract 0 8).data.toList = o1 at RC1 D1 D2
            generalize digS (p.extract 8 p.size).data.toList = o2 at RC2 D1 D3
            have RC1 := Lib.hid RC1
            have RC2 := Lib.hid RC2
            clear h16 stop
            go_wp2_with fail
            refine (RC1.out _).mono ?_
            rintro _ _ ⟨x, n1, rfl, hx, rfl⟩
            go_wp2_with fail
            refine (RC2.out _).mono ?_
            rintro _ _ ⟨y, n2, rfl, hy, rfl⟩
            have B2 := Lib.hid (hB.out.trans ((below_dN (w := wr) (n := n1 + n2)).mono hB.out.size))
            clear hc RC1 RC2
            cases o1 with
            | none =>
              have E := Lib.hid (D2.out rfl)
              clear hx hy D1 D2 D3
              generalize o2.isSome = bb
              go_wp2_with fail
              go_ret2
              exact ⟨.slice none 0 0, by rw [E.out]; rfl, by rw [E.out]; exact Oz_nil _ _, B2.out⟩
            | some m1 =>
              obtain rfl : x = m1 := hx m1 rfl
              cases o2 with
              | none =>
                have E := Lib.hid (D3.out rfl)
                clear hx hy D1 D2 D3
                go_wp2_with fail
                go_ret2
                exact ⟨.slice none 0 0, by rw [E.out]; rfl, by rw [E.out]; exact Oz_nil _ _, B2.out⟩
              | some m2 =>
                obtain rfl : y = m2 := hy m2 rfl
                have D4 := Lib.hid (DN.out (x, y) (D1.out x y rfl rfl))
                clear hx hy DN DF D1 D2 D3
                obtain ⟨v2, w4, hrun, hO2, hG, hS2⟩ := run_pushZ (wr.drewN (n1 + n2)) w.heap.size _ _ x y hO.out hB.out.size (by omega) 32 hS.out
                have H3 := Lib.hid (And.intro hO2 (And.intro (B2.out.trans hG) hS2))
                clear hO2 hG hS2
                go_wp2_with (at_builtin; refine Lib.wpList_append_run _ rfl (.tmp 56) (.tmp 60) 32 32 rfl _ _ rfl rfl _ _ hrun ?_)
                go_roundw
                case rel => exact ⟨k + 1, l ++ [(x, y)], by omega, by simp; omega, by go_num, H3.out.1, D4.out, H3.out.2.2, H3.out.2.1⟩
                case measure => simp [Lib.intOf]; omega
          · have h16b : ((p.size : Int) != 16) = true := by rw [bne_iff_ne]; omega
            have E := Lib.hid (stop.out (digC_long h16))
            clear h16
            go_wp2_with fail
            go_ret2
            exact ⟨.slice none 0 0, by rw [E.out]; rfl, by rw [E.out]; exact Oz_nil _ _, hB.out⟩
        · obtain rfl : k = ps.length := by omega
          have E := Lib.hid (show R = (l, true) by rw [RN.out, if_neg (by omega), hD.out.full])
          go_wp2
          go_ret2
          exact ⟨_, by rw [E.out]; rfl, by rw [E.out]; exact hO.out, hB.out⟩
theorem spec_ReadComplex (s : ByteArray) (hs : s.size ≤ 1048576) (w : World) :
    Calls Tryd.prog 14 #[.string s] w (RetRz (readC s).1 (readC s).2 w) := by
  have C := Lib.hid (fun w => spec_l01CRead s hs w)
  generalize readC s = R at *
  go_enter Tryd.func14, Tryd.ntmps14
  go_wp2_with fail
  refine (C.out _).mono ?_
  rintro _ w1 ⟨v1, rfl, hO, hB⟩
  have H := Lib.hid (And.intro hO hB)
  clear hO hB
  go_wp2
  go_ret2
  exact ⟨v1, rfl, H.out.1, H.out.2⟩
set_option maxHeartbeats 4000000 in
theorem law_ReadComplex (s : ByteArray) (w : World) (hw : Wd w) :
    Calls Tryd.prog 5 #[.string s] w (LawTrue w) := by
  have HWd := Lib.hid hw
  clear hw
  by_cases hs : s.size ≤ 1048576
  · have hs2 : ¬ (1048576 < (s.size : Int)) := by omega
    have hlen := readC_len s
    have HS := Lib.hid (fun w => spec_ReadComplex s hs w)
    have HI := Lib.hid (fun w h => impl_ReadComplex s hs w h)
    generalize readC s = R at *
    obtain ⟨ys, b⟩ := R
    dsimp only at hlen HS HI
    go_enter Tryd.func5, Tryd.ntmps5
    go_wp2_with fail
    refine (HS.out _).mono ?_
    rintro _ w1 ⟨v1, rfl, hO1, hB1⟩
    obtain ⟨a1, cap1, rfl, hF1, _⟩ := hO1.zs
    have H1 := Lib.hid (And.intro hF1 hB1)
    clear hO1 hF1 hB1
    go_wp2_with fail
    refine (HI.out _ (HWd.out.below H1.out.2)).mono ?_
    rintro _ w2 ⟨v2, rfl, hO2, hB2⟩
    obtain ⟨a2, cap2, rfl, hF2, _⟩ := hO2.zs
    have H2 := Lib.hid (And.intro hO2 hB2)
    clear hO2 hF2 hB2
    go_wp2_with fail
    refine (laws_eqComplex64S a2 a1 cap2 cap1 ys _ (Oz.zs' H2.out.1) (H1.out.1.below H2.out.2) (by omega)).mono ?_
    rintro _ _ ⟨n3, rfl, rfl⟩
    go_wp2_with fail
    refine (laws_markComplex64S w1.heap.size a2 cap2 ys _ (show Oz (w2.drewN n3) _ _ _ from H2.out.1) (by omega)).mono ?_
    rintro _ w3 ⟨rfl, hO3, hB3⟩
    have H3 := Lib.hid (And.intro hO3 ((below_drewN' H2.out.2 n3).trans hB3))
    clear hO3 hB3
    go_wp2_with fail
    refine (laws_heldComplex64S a2 cap2 ys.length _ (Oz.zs' H3.out.1) (by omega)).mono ?_
    rintro _ _ ⟨n4, rfl, rfl⟩
    have n1 : ¬ (1 + (ys.length : Int) < 0) := by omega
    go_wp2_with fail
    refine (HI.out _ (HWd.out.below (below_drewN' (H1.out.2.trans (H3.out.2.mono H1.out.2.size)) n4))).mono ?_
    rintro _ w4 ⟨v4, rfl, hO4, hB4⟩
    obtain ⟨a4, cap4, rfl, hF4, _⟩ := hO4.zs
    have H4 := Lib.hid (And.intro hF4 hB4)
    clear hO4 hF4 hB4
    go_wp2_with fail
    refine (laws_eqComplex64S a4 a1 cap4 cap1 ys _ H4.out.1 (((H1.out.1.below H3.out.2).drewN n4).below H4.out.2) (by omega)).mono ?_
    rintro _ _ ⟨n5, rfl, rfl⟩
    go_wp2_with fail
    refine (laws_heldComplex64S a2 cap2 ys.length _ ((((Oz.zs' H3.out.1).drewN n4).below H4.out.2).drewN n5) (by omega)).mono ?_
    rintro _ _ ⟨n6, rfl, rfl⟩
    go_wp2
    go_ret
    exact ⟨rfl, below_drewN' (H1.out.2.trans ((H3.out.2.mono H1.out.2.size).trans ((below_drewN' (Below.refl _ _) n4).trans (H4.out.2.mono (Nat.le_trans H1.out.2.size H3.out.2.size))))) _⟩
  · have hs2 : 1048576 < (s.size : Int) := by omega
    go_enter Tryd.func5, Tryd.ntmps5
    go_wp2
    go_ret
    exact ⟨rfl, Below.refl _ _⟩
end Go.Proofs.YtbadlhakedppiaaDoor
